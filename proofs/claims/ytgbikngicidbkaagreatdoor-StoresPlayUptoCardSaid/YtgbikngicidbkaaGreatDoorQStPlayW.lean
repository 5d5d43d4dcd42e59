/- The statement StoresPlay: what it returns;conditions: those typed. -/
import Derived.Test.YtgbikngicidbkaaGreatDoorQStPlayUStPlayV
import Derived.Test.YtgbikngicidbkaaGreatDoorQR20mR20nR20o
import Derived.Deep.CutBlock
import Derived.Deep.DeepCutAuto
namespace Go.Proofs.YtgbikngicidbkaaGreatDoor
open Go.RowKit
set_option linter.unusedVariables false
set_option linter.unusedSimpArgs false
set_option maxRecDepth 100000
theorem rec_oneP (a:Int) (b:Bool) (x:Option Addr) (n k:Nat):∀ v ∈ [Value.int .u32 a,Value.bool b,Value.slice x n k],v.oneCell'=true:=by
 intro v hv
 simp only [List.mem_cons,List.not_mem_nil,or_false] at hv
 rcases hv with rfl | rfl | rfl <;> rfl
set_option maxHeartbeats 64000000 in
theorem storesPlay_any (sec:Nat) (hsec:sec<256) (x:StA) (c:StC) (la:Option Addr) (ln lc:Nat) (L:List AcV) (w:World) (hc:IsCf w (fun k=>k<w.heap.size) x c) (hL:IsRows AcV.cells 10 w la ln lc L) (hA:∀ y ∈ L,AcOk w y) (hm:L.length≤1048576) (hcm:CfgSm c.d 1048576) (hs:∀ y ∈ L,AcSm y) :
   Calls Tryz.prog 3 #[.int .u8 sec,.agg (x.cells c.t).toArray,.slice la ln lc] w fun e w' => e=.returned (.bool true)∧Below w.heap.size w w':=by
 have HL:=Lib.hid hL
 have HA:=Lib.hid hA
 have HSM:=Lib.hid hs
 have HCD:=Lib.hid hcm
 have HCM:Hid (CfSm c):=Lib.hid ⟨hcm.r,hcm.s,hcm.a,hcm.u,hcm.e⟩
 have HC:=Lib.hid hc
 obtain rfl:=hL.1
 have hct:=hc.t
 have hb0:Below w.heap.size w (w.alloc (.cells #[.slice x.ra x.rn x.rc,.slice x.sa x.sn x.sc,.slice x.aa x.an x.ac,.slice x.ua x.un x.uc,.int .u64 (c.t:Int)] 27)):=(Below.refl _ _).alloc (Nat.le_refl _) _
 have HB0:=Lib.hid hb0
 have HX0:Hid (BxCf (w.alloc (.cells #[.slice x.ra x.rn x.rc,.slice x.sa x.sn x.sc,.slice x.aa x.an x.ac,.slice x.ua x.un x.uc,.int .u64 (c.t:Int)] 27)) w.heap.size x c):=Lib.hid (heap_new w _)
 have HC0:=Lib.hid (hc.below hb0)
 have HL0:=Lib.hid (hL.below hb0)
 clear hc hL hA hs hb0 hcm
 rw [show (x.cells c.t).toArray = #[.slice x.ra x.rn x.rc,.slice x.sa x.sn x.sc,.slice x.aa x.an x.ac,.slice x.ua x.un x.uc,.int .u64 (c.t:Int)] from rfl]
 go_enter Tryz.func3,Tryz.ntmps3
 go_wp2_with (first
   | (refine wpList_load_mid rfl 27 (.tmp 4) rfl w.heap.size 0 rfl (x.cells c.t) _ HX0.out.row Tryz.underlying27 rfl infoCfg5 ?_)
   | fail)
 generalize w.alloc (.cells #[.slice x.ra x.rn x.rc,.slice x.sa x.sn x.sc,.slice x.aa x.an x.ac,.slice x.ua x.un x.uc,.int .u64 (c.t:Int)] 27)=w0 at HB0 HX0 HC0 HL0 ⊢
 obtain ⟨bc,hbc⟩:∃ bc,bc=w.heap.size:=⟨_,rfl⟩
 have hbcw:w.heap.size≤bc:=by omega
 rw [← hbc] at HX0 ⊢
 clear hbc
 refine (great_is _ x c la L.length lc L w0 HC0.out HL0.out hm HCM.out HSM.out).mono ?_;rintro e w1 ⟨rfl,hb1⟩
 have HB1:=Lib.hid (HB0.out.trans (hb1.mono HB0.out.size))
 have HX1:=Lib.hid (HX0.out.below hb1)
 have HC1:=Lib.hid (HC0.out.below hb1)
 clear hb1 HB0 HX0 HC0 HL0 hm
 by_cases hbig:250<grtN c L
 · rw [decide_eq_true hbig]
   go_wp2_with fail
   refine (lives_any _).mono ?_;rintro e w2 ⟨rfl,hb2⟩
   have HBE:=Lib.hid (HB1.out.trans (hb2.mono HB1.out.size))
   clear hb2
   go_wp2
   go_ret
   exact ⟨rfl,HBE.out⟩
 rw [decide_eq_false hbig]
 as_aux_lemma =>
  have hg:grtN c L≤250:=by omega
  have hlb:L.length≤62:=by have:=asum_len L;unfold grtN at hg;omega
  have hcs:c.s.length≤250:=by unfold grtN at hg;omega
  have HLEN:Hid (∀ y ∈ L,y.r.n≤250∧y.on≤250∧y.bn≤10039):=Lib.hid (fun y hy=>by have:=asum_mem L y hy;unfold grtN at hg;omega)
  clear hbig hg
  obtain ⟨z,hz⟩:∃ z:Nat,z=1+sec:=⟨_,rfl⟩
  have HZ:Hid ((1:Int)+(sec:Int)=(z:Int)):=Lib.hid (by omega)
  have hz1:1≤z:=by omega
  have hz2:z≤256:=by omega
  clear hz
  go_wp2_with fail
  rw [HZ.out]
  refine (new_good z w1 hz1 (by omega)).mono ?_;rintro e w2 ⟨bd,bl,rfl,hb2,g1,g2,hd2⟩
  go_wp2_with fail
  rw [HZ.out]
  refine (rnew_good z w2 hz1 (by omega)).mono ?_;rintro e w3 ⟨rd,rl,rc,rfl,hb3,hr3⟩
  obtain ⟨D0,hD0⟩:∃ D0,D0=(⟨List.replicate z zsec,-1,false,0⟩:Dsk):=⟨_,rfl⟩
  rw [← hD0] at hd2 hr3
  have HF0:Hid (D0.fine 0):=Lib.hid (by rw [hD0];exact newD_fine' z)
  have HSA0:Hid (Same D0 D0):=Lib.hid ⟨rfl,rfl,rfl,.inl rfl⟩
  have HB3:=Lib.hid ((HB1.out.trans (hb2.mono HB1.out.size)).trans (hb3.mono (Nat.le_trans HB1.out.size hb2.size)))
  have hw1:=HB1.out.size
  have hw2:=hb2.size
  have hw3:=hb3.size
  have HX3:=Lib.hid ((HX1.out.below hb2).below hb3)
  have HC3:=Lib.hid ((HC1.out.below hb2).below hb3)
  have HD3:=Lib.hid (hd2.touch (Touch.of_below (S:=fun _=>False) hb3) id id)
  have hdl:=HD3.out.lt
  have hrl:=hr3.lt
  have hrle:=hr3.le
  have HR3:Hid (IsRef w3 w.heap.size rd rl rc D0):=Lib.hid (hr3.lowr (by omega))
  have hdge:w.heap.size≤bd∧w.heap.size≤bl:=⟨by omega,by omega⟩
  clear hb2 hb3 hd2 hr3 hD0 HB1 HX1 HC1
  go_wp2_with (first
    | (refine wpList_load_mid rfl 27 (.tmp 4) rfl bc 0 rfl (x.cells c.t) _ HX3.out.row Tryz.underlying27 rfl infoCfg5 ?_)
    | fail)
  refine (twin_st x c _ w3 HC3.out HCD.out).mono ?_;rintro e w4 ⟨y,rfl,hb4,ht4⟩
  have hal:Below w4.heap.size w4 (w4.alloc (.cells ((y.stA c).cells c.t).toArray 27)):=(Below.refl _ _).alloc (Nat.le_refl _) _
  have hb5:Below w3.heap.size w3 (w4.alloc (.cells ((y.stA c).cells c.t).toArray 27)):=hb4.trans (hal.mono hb4.size)
  have HV5:Hid (BxCf (w4.alloc (.cells ((y.stA c).cells c.t).toArray 27)) w4.heap.size (y.stA c) c):=Lib.hid (heap_new w4 _)
  have HB5:=Lib.hid (HB3.out.trans (hb5.mono HB3.out.size))
  have HX5:=Lib.hid (HX3.out.below hb5)
  have HC5:=Lib.hid (HC3.out.below hb5)
  have HD5:=Lib.hid (HD3.out.touch (Touch.of_below (S:=fun _=>False) hb5) id id)
  have HR5:=Lib.hid (HR3.out.below hb5)
  have HTW5:=Lib.hid (ht4.below hal)
  have HON:=Lib.hid (StA.one (y.stA c) c.t)
  have hw4:=hb4.size
  clear ht4 hal hb4 hb5 HB3 HX3 HC3 HD3 HR3
  go_wp2_with (first
    | (refine wpList_declare rfl rfl 27 rfl (.tmp 11) (.tmp 64) rfl _ zeroCfg5 ((y.stA c).cells c.t).toArray rfl (by rw [infoCfg5];rfl) rfl rfl (by simpa using HON.out) ?_)
    | (refine wpList_load_mid rfl 27 (.tmp 11) rfl w4.heap.size 0 rfl ((y.stA c).cells c.t) _ HV5.out.row Tryz.underlying27 rfl infoCfg5 ?_)
    | fail)
  have hw5:w4.heap.size<(w4.alloc (.cells ((y.stA c).cells c.t).toArray 27)).heap.size:=lt_of_heap HV5.out
  generalize w4.alloc (.cells ((y.stA c).cells c.t).toArray 27)=w5 at HV5 HB5 HX5 HC5 HD5 HR5 HTW5 hw5 ⊢
  obtain ⟨b11,hb11⟩:∃ b11,b11=w4.heap.size:=⟨_,rfl⟩
  rw [← hb11] at HV5 ⊢
  refine (make_all _ bd bl D0 (y.stA c) c 0 w5 HD5.out (HTW5.out.isCf HCM.out hct) (fun k hk e=>by omega) HF0.out (by decide)).mono ?_
  rintro e w6 ⟨s,rfl,ht6,hd6,hm6⟩
  obtain ⟨E,hE⟩:∃ E,E=(makeD c D0).1:=⟨_,rfl⟩
  obtain ⟨D1,hD1⟩:∃ D1,D1=(makeD c D0).2:=⟨_,rfl⟩
  have HF1:Hid (D1.fine 10):=Lib.hid (by rw [hD1];exact (makeD_fine HF0.out).mono (by decide))
  rw [← hE,← hD1] at hm6
  rw [← hE]
  rw [← hD1] at hd6
  have HE:=Lib.hid hE
  have HD1:=Lib.hid hD1
  have HM6:=Lib.hid hm6
  have HD6:=Lib.hid hd6
  have HR6:=Lib.hid (HR5.out.touch ht6 (noRefD HD5.out))
  have HX6:=Lib.hid (HX5.out.touch ht6 (diskNe HD5.out HX5.out (by decide) (by decide)))
  have HV6:=Lib.hid (HV5.out.touch ht6 (diskNe HD5.out HV5.out (by decide) (by decide)))
  have HB6:=Lib.hid (HB5.out.trans (ht6.below HB5.out.size (fun k hk e=>by omega)))
  have HC6:=Lib.hid (HC.out.below HB6.out)
  have HTW6:=Lib.hid (HTW5.out.touchB ht6 (fun k hk e=>by omega) (noU8D HD5.out))
  have hw6:=ht6.size
  clear ht6 hd6 hm6 hE hD1 HB5 HX5 HV5 HC5 HD5 HR5 HTW5 hb11
  as_aux_lemma =>
   go_wp2_with (first
     | (refine wpList_load_mid rfl 27 (.tmp 4) rfl bc 0 rfl (x.cells c.t) _ HX6.out.row Tryz.underlying27 rfl infoCfg5 ?_)
     | fail)
   refine (rmake_all _ w.heap.size rd rl rc D0 x c 0 w6 HR6.out HC6.out (fun k hk e=>by omega) HF0.out (by decide)).mono ?_
   rintro e w7 ⟨t,rfl,ht7,hr7,hm7⟩
   rw [← HE.out,← HD1.out] at hm7
   rw [← HE.out]
   rw [← HD1.out] at hr7
   have HP7:Hid (Prs w w7 bd bl rd rl rc s t D1 D1):=Lib.hid (by
     rcases HM6.out with ⟨k1,k2⟩ | ⟨k1,k2,bs,yx,k3,k4,k5⟩ <;> rcases hm7 with ⟨l1,l2⟩ | ⟨l1,l2,ts,yr,l3,l4,l5⟩
     · exact .inl ⟨k2,l2⟩
     · exact absurd l1 k1
     · exact absurd k1 l1
     · exact .inr ⟨bs,ts,yx,yr,c,k3,l3,StB.made k4 k5 HR6.out ht7 l4 l5 (by omega) (by omega) ⟨by omega,by omega⟩ ⟨by omega,by omega⟩ k2⟩)
   have HR7:=Lib.hid hr7
   have HX7:=Lib.hid (HX6.out.touch ht7 (refNe HR6.out HX6.out (by decide) (by decide)))
   have HV7:=Lib.hid (HV6.out.touch ht7 (refNe HR6.out HV6.out (by decide) (by decide)))
   have HD7:=Lib.hid (HD6.out.touch ht7 (refNe HR6.out HD6.out.cells (by decide) (by decide)) (refNe HR6.out HD6.out.row (by decide) (by decide)))
   have HB7:=Lib.hid (HB6.out.trans (ht7.below HB6.out.size (fun k hk e=>by omega)))
   have HC7:=Lib.hid (HC.out.below HB7.out)
   have HTW7:=Lib.hid (HTW6.out.touchB ht7 (fun k hk e=>by omega) (noU8R HR6.out))
   have hw7:=ht7.size
   clear ht7 hr7 hm7 HM6 HD6 HR6 HX6 HV6 HB6 HC6 HTW6 HE HD1
   as_aux_lemma =>
    have hee:(E == E)=true:=by simp
    have hne:(E != E)=false:=by simp
    go_wp2_with (first
      | (refine wpList_load_wanted (by rfl) 27 (.tmp 11) rfl b11 0 rfl ((y.stA c).cells c.t) _ HV7.out.row Tryz.underlying27 rfl infoCfg5 ?_)
      | (refine wpList_load_wanted (by rfl) 27 (.tmp 4) rfl bc 0 rfl (x.cells c.t) _ HX7.out.row Tryz.underlying27 rfl infoCfg5 ?_)
      | fail)
    refine (left_st x y c _ _ w7 HC7.out HTW7.out HCD.out).mono ?_;rintro e w8 ⟨rfl,hb8⟩
    have hal:Below w8.heap.size w8 (w8.alloc (.cells (bookC 0 (fun _=>.slice none 0 0)) 56)):=(Below.refl _ _).alloc (Nat.le_refl _) _
    have hb9:Below w7.heap.size w7 (w8.alloc (.cells (bookC 0 (fun _=>.slice none 0 0)) 56)):=hb8.trans (hal.mono hb8.size)
    have HK9:=Lib.hid (BkP.start w8 (QL w3.heap.size rd rl) w.heap.size (by have:=hb8.size;omega))
    have HB9:=Lib.hid (HB7.out.trans (hb9.mono HB7.out.size))
    have HX9:=Lib.hid (HX7.out.below hb9)
    have HV9:=Lib.hid (HV7.out.below hb9)
    have HD9:=Lib.hid (HD7.out.touch (Touch.of_below (S:=fun _=>False) hb9) id id)
    have HR9:=Lib.hid (HR7.out.below hb9)
    have HTW9:=Lib.hid (HTW7.out.below hb9)
    have HP9:=Lib.hid (HP7.out.after hb9)
    have hw9:=hb9.size
    clear hb8 hal hb9 HB7 HX7 HV7 HD7 HR7 HTW7 HP7 HC7 hee hne
    go_wp2_with (first
      | (refine wpList_alloc_any rfl 56 rfl _ zeroBook4 _ rfl ?_)
      | (refine wpList_load_mid rfl 27 (.tmp 11) rfl b11 0 rfl ((y.stA c).cells c.t) _ HV9.out.row Tryz.underlying27 rfl infoCfg5 ?_)
      | fail)
    generalize w8.alloc (.cells (bookC 0 (fun _=>.slice none 0 0)) 56)=w9 at HK9 HB9 HX9 HV9 HD9 HR9 HTW9 HP9 hw9 ⊢
    obtain ⟨bk,hbk⟩:∃ bk,bk=w8.heap.size:=⟨_,rfl⟩
    rw [← hbk] at HK9 ⊢
    clear hbk
    refine (tell_twin w9 w.heap.size bk w3.heap.size w9.heap.size rd rl 0 y c HK9.out HTW9.out (by omega) ⟨by omega,by omega⟩ (by omega) (Nat.le_refl _) HCD.out (by omega) hct (by decide)).mono ?_;rintro e w10 ⟨rfl,ht10,hk10⟩
    have HS:Hid (PlS w w10 bd bl rd rl rc bk 1004 bc x c s t D1 D1∧D1.fine (10*((0:Nat)+1:Int))):=Lib.hid ⟨PlS.kept (cnt:=0) ⟨⟨HB9.out,HD9.out,hdge,HR9.out,⟨rfl,rfl,rfl,.inl rfl⟩,HK9.out.mono (fun k hk=>⟨by have:=hk.1;omega,hk.2⟩) (Nat.le_refl _)⟩,HP9.out,HX9.out⟩ ht10 (hk10.mono (fun k hk=>hk) (by omega)),HF1.out.mono (by omega)⟩
    clear ht10 hk10 HK9 HB9 HX9 HV9 HD9 HR9 HTW9 HP9 HF1 HF0 HSA0 hw1 hw2 hw3 hw4 hw5 hw6 hw7 hw9 hdl hrl hrle hdge HON
    as_aux_lemma =>
     obtain ⟨M,hM⟩:∃ M,M=L.length:=⟨_,rfl⟩
     have HM:=Lib.hid hM
     have hM62:M≤62:=by omega
     clear hM
     go_wp2_with fail
     go_loopw [7,9,12,13,15] (fun d m s t i wr => ∃ (j bd bl rd rl rc:Nat) (D R:Dsk) (s' t':Value),j≤M∧d=.pointer (some ⟨bd,0,none⟩)∧m=.pointer (some ⟨rd,0,none⟩)∧s=s'∧t=t'∧i=.int .i64 j∧Hid (PlS w wr bd bl rd rl rc bk (1004+30*j) bc x c s' t' D R∧D.fine (10*((j:Int)+1)))) (fun d m s t i _=>M - (intOf i).toNat)
     case atStart=>exact ⟨0,bd,bl,rd,rl,rc,D1,D1,s,t,Nat.zero_le _,rfl,rfl,rfl,rfl,rfl,HS⟩
     case round =>
      as_aux_lemma =>
        clear HS
        obtain ⟨j,bd,bl,rd,rl,rc,D,R,s,t,hj,rfl,rfl,rfl,rfl,rfl,HS⟩:=hrel
        by_cases hlt:j<M
        · have hjL:j<L.length:=by rw [← HM.out];exact hlt
          obtain ⟨_,_,_,h4 | ⟨b,off,rfl,hblt,hcell⟩⟩:=HL.out
          · rw [h4] at hjL;simp at hjL
          obtain ⟨yy,hyy⟩:∃ yy,yy=L[j]:=⟨_,rfl⟩
          have hmem:yy ∈ L:=by rw [hyy];exact List.getElem_mem hjL
          have RA:Hid (wr.rangeAt b (off+j*10) yy.cells):=Lib.hid (range_low (w:=w) (by rw [hyy];exact fun i v hv=>hcell j hjL i v hv) HS.out.1.q.below hblt)
          have HOK:=Lib.hid (HA.out yy hmem)
          obtain ⟨hl1,hl2,hl3⟩:=HLEN.out yy hmem
          have HO1:Hid (yy.on=yy.o.length):=Lib.hid HOK.out.o.1.1
          have ho2:yy.o.length≤250:=by have:=HO1.out;omega
          clear hcell hyy hmem
          have hbx:Below wr.heap.size wr (wr.alloc (.cells yy.cells.toArray 63)):=(Below.refl _ _).alloc (Nat.le_refl _) _
          have HX1:Hid (BxAc (wr.alloc (.cells yy.cells.toArray 63)) wr.heap.size yy):=Lib.hid (heap_new wr _)
          have HS1:=Lib.hid (HS.out.1.after hbx)
          have HF1:=Lib.hid HS.out.2
          have HONE:=Lib.hid (AcV.one yy)
          clear hbx HS
          obtain ⟨f10,hf10⟩:∃ f10:Nat,f10=yy.k % 10:=⟨_,rfl⟩
          have hf11:f10<10:=by omega
          have m1:(yy.k:Int) % 10=(f10:Int):=by omega
          have m2:((yy.k:Int)).tmod 10=(f10:Int):=by rw [Int.tmod_eq_emod_of_nonneg (by omega)];omega
          have m3:IntKind.u8.wrap (f10:Int)=(f10:Int):=by rw [IntKind.wrap_u8'];omega
          clear hf10
          go_upto_block 2 with (first
            | (refine wpList_load_mid rfl 63 (.tmp 96) rfl b (off+j*10) rfl yy.cells _ RA.out Tryz.underlying63 rfl infoAct10 ?_)
            | (refine wpList_declare rfl rfl 63 rfl (.tmp 16) (.tmp 97) rfl _ zeroAct10 yy.cells.toArray rfl (by rw [infoAct10];rfl) rfl rfl (by simpa using HONE.out) ?_
               generalize wr.alloc (.cells yy.cells.toArray 63)=w1 at HX1 HS1 ⊢
               obtain ⟨hx,hhx⟩:∃ hx,hx=wr.heap.size:=⟨_,rfl⟩
               rw [← hhx] at HX1 ⊢
               clear hhx
               obtain ⟨v0,v1,v2,v3,v4,v5,v6,v7,v8,v9⟩:=HX1.out.cells)
            | fail)
          clear RA HONE hjL
          have hj1:j+1≤M:=hlt
          have hjj:j≤62:=by omega
          go_cut [7,9,12,13] (fun d m s t wx=>PlCut w bk (1004+30*j) bc hx (10*((j:Int)+2)) x c yy d m s t wx)
          case first =>
            have hcases:(f10=4∨f10=5)∨f10=6∨f10=7∨f10=8∨f10=9∨f10<4:=by omega
            rcases hcases with hk | rfl | rfl | rfl | rfl | hk
            · go_upto_if 127 with fail
              go_cut [127] (fun v wx=>v=.bool true∧w1=wx)
              case first =>
                rcases hk with rfl | rfl
                · go_wp2_with fail
                  go_meet
                  exact ⟨rfl,rfl⟩
                · go_wp2_with fail
                  go_meet
                  exact ⟨rfl,rfl⟩
              case rest =>
                obtain ⟨rfl,rfl⟩:=hcut
                rcases HS1.out.p with ⟨rfl,rfl⟩ | ⟨bs,ts,xs,ys,cs,rfl,rfl,hst⟩
                · as_aux_lemma =>
                    go_wp2_with fail
                    refine (twinI_ex yy.oa yy.on yy.oc yy.o w1 (Nat.le_trans ho2 (by decide)) (HOK.out.o.1.below HS1.out.q.below)).mono ?_
                    rintro e w2 ⟨g,rfl,hb2,htg,hgg⟩
                    rw [← HO1.out]
                    have hbd:Below w1.heap.size w1 w2.drew:=hb2.trans ((Below.refl w2.heap.size w2).drew.mono hb2.size)
                    have HSd:=Lib.hid (HS1.out.after hbd)
                    have HXd:=Lib.hid (HX1.out.below hbd)
                    have HTd:Hid (TwI w2.drew g yy.o):=Lib.hid htg
                    clear hb2 htg hgg v0 v1 v2 v3 v4 v5 v6 v7 v8 v9
                    clear HS1 HX1 hbd
                    go_wp2_with fail
                    refine wp_region_held_drew (S:=(fun w':World=>BxAc w' hx yy)) (by kernel_rfl) (HXd.out) (fun hS0 => ?_)
                    refine tk 0 (.pointer none) rfl (fun w' hSw => ?_) hS0 ?_
                    · go_simp
                    refine tk 1 (.bool false) rfl (fun w' hSw => ?_) hS0 ?_
                    · go_simp
                    refine tk 2 (.bool false) rfl (fun w' hSw => ?_) hS0 ?_
                    · go_simp
                    try simp only [List.getElem_toArray,List.getElem_cons_zero,List.getElem_cons_succ,Act.put,List.setIfInBounds_toArray,List.set_cons_zero,List.set_cons_succ]
                    refine tn 3 rfl hS0 ?_
                    refine tn 4 rfl hS0 ?_
                    refine tn 5 rfl hS0 ?_
                    try simp only [List.getElem_toArray,List.getElem_cons_zero,List.getElem_cons_succ,Act.put,List.setIfInBounds_toArray,List.set_cons_zero,List.set_cons_succ]
                    refine tn 6 rfl hS0 ?_
                    refine tn 7 rfl hS0 ?_
                    refine tn 8 rfl hS0 ?_
                    try simp only [List.getElem_toArray,List.getElem_cons_zero,List.getElem_cons_succ,Act.put,List.setIfInBounds_toArray,List.set_cons_zero,List.set_cons_succ]
                    refine tn 9 rfl hS0 ?_
                    refine tn 10 rfl hS0 ?_
                    refine tn 11 rfl hS0 ?_
                    try simp only [List.getElem_toArray,List.getElem_cons_zero,List.getElem_cons_succ,Act.put,List.setIfInBounds_toArray,List.set_cons_zero,List.set_cons_succ]
                    refine tn 12 rfl hS0 ?_
                    refine tn 13 rfl hS0 ?_
                    refine tn 14 rfl hS0 ?_
                    try simp only [List.getElem_toArray,List.getElem_cons_zero,List.getElem_cons_succ,Act.put,List.setIfInBounds_toArray,List.set_cons_zero,List.set_cons_succ]
                    refine tk 15 (.bool false) rfl (fun w' hSw => ?_) hS0 ?_
                    · go_simp
                    refine tk 16 (.bool false) rfl (fun w' hSw => ?_) hS0 ?_
                    · go_simp
                    refine tk 17 (.slice (some ⟨g,0,none⟩) yy.on (yy.on+1)) rfl (fun w' hSw => ?_) hS0 ?_
                    · go_simp
                    try simp only [List.getElem_toArray,List.getElem_cons_zero,List.getElem_cons_succ,Act.put,List.setIfInBounds_toArray,List.set_cons_zero,List.set_cons_succ]
                    refine tk 18 (.pointer (some ⟨hx,6,none⟩)) rfl (fun w' hSw => ?_) hS0 ?_
                    · go_simp
                    refine tk 19 (.slice yy.oa yy.on yy.oc) rfl (fun w' hSw => ?_) hS0 ?_
                    · obtain ⟨g0,g1,g2,g3,g4,g5,g6,g7,g8,g9⟩:=BxAc.cells hSw
                      go_simp
                      try rfl
                    try simp only [List.getElem_toArray,List.getElem_cons_zero,List.getElem_cons_succ,Act.put,List.setIfInBounds_toArray,List.set_cons_zero,List.set_cons_succ]
                    refine wpAnyH_ready (rs:=[20]) (by kernel_rfl) (by simp) ?_
                    refine AllReadyH.cons rfl (fun K hK => ?_) AllReadyH.nil
                    go_simp
                    refine (leftI_any g yy.oa yy.on yy.oc yy.o w2.drew (by omega) (HOK.out.o.1.below HSd.out.q.below) HTd.out.twin).mono ?_;rintro e w5 ⟨rfl,hb5⟩
                    have HS5:=Lib.hid (HSd.out.after hb5)
                    have HX5:=Lib.hid (HXd.out.below hb5)
                    refine hK.out _ _ (HX5.out) (fun hS1 => ?_)
                    clear hK K
                    try simp only [List.getElem_toArray,List.getElem_cons_zero,List.getElem_cons_succ,Act.put,List.setIfInBounds_toArray,List.set_cons_zero,List.set_cons_succ]
                    refine tk 21 (.bool false) rfl (fun w' hSw => ?_) hS1 ?_
                    · go_simp
                    refine tk 22 (.bool false) rfl (fun w' hSw => ?_) hS1 ?_
                    · go_simp
                    refine wpAnyH_done (by kernel_rfl) ?_ _
                    try simp only [List.getElem_toArray,List.getElem_cons_zero,List.getElem_cons_succ,Act.put,List.setIfInBounds_toArray,List.set_cons_zero,List.set_cons_succ]
                    clear HSd HXd HTd hb5
                    go_wp2_with fail
                    go_meet
                    exact ⟨bd,bl,rd,rl,rc,D,R,rfl,rfl,HS5.out,HF1.out.mono (by omega),HX5.out⟩
                · as_aux_lemma =>
                    have hmay:=(mayB_iff cs).1 hst.may
                    have hs8:=hmay.s.2
                    have HST:=Lib.hid hst
                    clear hst hmay
                    go_wp2_with fail
                    refine (twinI_ex yy.oa yy.on yy.oc yy.o w1 (Nat.le_trans ho2 (by decide)) (HOK.out.o.1.below HS1.out.q.below)).mono ?_
                    rintro e w2 ⟨g,rfl,hb2,htg,hgg⟩
                    rw [← HO1.out]
                    have hbd:Below w1.heap.size w1 w2.drew:=hb2.trans ((Below.refl w2.heap.size w2).drew.mono hb2.size)
                    have HSd:=Lib.hid (HS1.out.after hbd)
                    have HXd:=Lib.hid (HX1.out.below hbd)
                    have HTd:Hid (TwI w2.drew g yy.o):=Lib.hid htg
                    clear hb2 htg hgg v0 v1 v2 v3 v4 v5 v6 v7 v8 v9
                    have HSTd:=Lib.hid (HST.out.after hbd)
                    clear HS1 HX1 HST hbd
                    have HSAME:=Lib.hid HSd.out.q.same
                    have hti:IsI w2.drew (some ⟨g,0,none⟩) yy.on (yy.on+1) yy.o:=⟨HOK.out.o.1.1,by have:=HOK.out.o.1.1;omega,by unfold maxLen;omega,.inr ⟨g,0,rfl,lt_of_heap HTd.out,fun i hi=>by rw [Nat.zero_add];exact HTd.out.twin.2.1 i hi⟩⟩
                    have HT1:=Lib.hid (turn_pub bs bd bl xs cs D yy.p (some ⟨g,0,none⟩) yy.on (yy.on+1) yy.o _ w2.drew HSTd.out.ps hti (by have:=HOK.out.o.2;omega) HOK.out.p HF1.out (by omega) (get_lt32 HSTd.out.ps.disk _))
                    have HTT:=Lib.hid (HSAME.out.turn cs.s.length yy.p yy.o)
                    have HFT:=Lib.hid (turnD_fine HF1.out cs.s.length yy.p yy.o)
                    obtain ⟨E,hE⟩:∃ E,E=(turnD cs.s.length D yy.p yy.o).1:=⟨_,rfl⟩
                    rw [← hE] at HT1 HTT
                    clear hE hti
                    have hee:(E == E)=true:=by simp
                    have hne:(E != E)=false:=by simp
                    go_wp2_with fail
                    refine wp_region_held_drew (S:=(fun w':World=>BxAc w' hx yy)) (by kernel_rfl) (HXd.out) (fun hS0 => ?_)
                    refine tk 0 (.pointer (some ⟨ts,0,none⟩)) rfl (fun w' hSw => ?_) hS0 ?_
                    · go_simp
                    refine tk 1 (.bool true) rfl (fun w' hSw => ?_) hS0 ?_
                    · go_simp
                    refine tk 2 (.bool true) rfl (fun w' hSw => ?_) hS0 ?_
                    · go_simp
                    try simp only [List.getElem_toArray,List.getElem_cons_zero,List.getElem_cons_succ,Act.put,List.setIfInBounds_toArray,List.set_cons_zero,List.set_cons_succ]
                    refine tk 3 (.pointer (some ⟨bs,0,none⟩)) rfl (fun w' hSw => ?_) hS0 ?_
                    · go_simp
                    refine tk 4 (.pointer (some ⟨hx,5,none⟩)) rfl (fun w' hSw => ?_) hS0 ?_
                    · go_simp
                    refine tk 5 (.int .u8 yy.p) rfl (fun w' hSw => ?_) hS0 ?_
                    · obtain ⟨g0,g1,g2,g3,g4,g5,g6,g7,g8,g9⟩:=BxAc.cells hSw
                      go_simp
                      try rfl
                    try simp only [List.getElem_toArray,List.getElem_cons_zero,List.getElem_cons_succ,Act.put,List.setIfInBounds_toArray,List.set_cons_zero,List.set_cons_succ]
                    refine tk 6 (.slice (some ⟨g,0,none⟩) yy.on (yy.on+1)) rfl (fun w' hSw => ?_) hS0 ?_
                    · go_simp
                    refine tk 8 (.pointer (some ⟨ts,0,none⟩)) rfl (fun w' hSw => ?_) hS0 ?_
                    · go_simp
                    refine tk 9 (.pointer (some ⟨hx,5,none⟩)) rfl (fun w' hSw => ?_) hS0 ?_
                    · go_simp
                    try simp only [List.getElem_toArray,List.getElem_cons_zero,List.getElem_cons_succ,Act.put,List.setIfInBounds_toArray,List.set_cons_zero,List.set_cons_succ]
                    refine tk 10 (.int .u8 yy.p) rfl (fun w' hSw => ?_) hS0 ?_
                    · obtain ⟨g0,g1,g2,g3,g4,g5,g6,g7,g8,g9⟩:=BxAc.cells hSw
                      go_simp
                      try rfl
                    refine tk 11 (.pointer (some ⟨hx,6,none⟩)) rfl (fun w' hSw => ?_) hS0 ?_
                    · go_simp
                    refine tk 12 (.slice yy.oa yy.on yy.oc) rfl (fun w' hSw => ?_) hS0 ?_
                    · obtain ⟨g0,g1,g2,g3,g4,g5,g6,g7,g8,g9⟩:=BxAc.cells hSw
                      go_simp
                      try rfl
                    try simp only [List.getElem_toArray,List.getElem_cons_zero,List.getElem_cons_succ,Act.put,List.setIfInBounds_toArray,List.set_cons_zero,List.set_cons_succ]
                    refine wpAnyH_ready (rs:=[7]) (by kernel_rfl) (by simp) ?_
                    refine AllReadyH.cons rfl (fun K hK => ?_) AllReadyH.nil
                    go_simp
                    refine HT1.out.mono ?_;rintro e w3 ⟨rfl,ht3,hd3⟩
                    have HX3:=Lib.hid (HXd.out.touch ht3 (diskNe HSd.out.q.disk HXd.out (by decide) (by decide)))
                    have HR3:=Lib.hid (HSd.out.ref1 ht3)
                    have HT3:Hid (TwI w3 g yy.o):=Lib.hid (ht3.heap HTd.out (diskNe HSd.out.q.disk HTd.out (by decide) (by decide)))
                    have HB3:=Lib.hid (HSTd.out.first ht3 hd3)
                    refine hK.out _ _ (HX3.out) (fun hS1 => ?_)
                    clear hK K
                    try simp only [List.getElem_toArray,List.getElem_cons_zero,List.getElem_cons_succ,Act.put,List.setIfInBounds_toArray,List.set_cons_zero,List.set_cons_succ]
                    refine wpAnyH_ready (rs:=[13]) (by kernel_rfl) (by simp) ?_
                    refine AllReadyH.cons rfl (fun K hK => ?_) AllReadyH.nil
                    go_simp
                    refine (rturn_any ts w.heap.size rd rl rc ys cs R yy.p yy.oa yy.on yy.oc yy.o _ w3 HB3.out.rs (HOK.out.o.1.below HR3.out.2) HOK.out.p (by omega) (HSAME.out.fine HF1.out) (by omega) (by rw [HSAME.out.get];exact get_lt32 HSd.out.q.disk _)).mono ?_;rintro e w4 ⟨he,ht4,hr4⟩
                    rw [HTT.out.1] at he;subst he
                    have HX4:=Lib.hid (HX3.out.touch ht4 (refNe HR3.out.1 HX3.out (by decide) (by decide)))
                    have HT4:Hid (TwI w4 g yy.o):=Lib.hid (ht4.heap HT3.out (refNe HR3.out.1 HT3.out (by decide) (by decide)))
                    have HS4:=Lib.hid (HSd.out.both ht3 hd3 ht4 hr4 HTT.out.2)
                    refine hK.out _ _ (HX4.out) (fun hS2 => ?_)
                    clear hK K
                    try simp only [List.getElem_toArray,List.getElem_cons_zero,List.getElem_cons_succ,Act.put,List.setIfInBounds_toArray,List.set_cons_zero,List.set_cons_succ]
                    refine tk 14 (.bool false) rfl (fun w' hSw => ?_) hS2 ?_
                    · go_simp
                    refine tk 15 (.bool false) rfl (fun w' hSw => ?_) hS2 ?_
                    · go_simp
                    refine tk 16 (.bool false) rfl (fun w' hSw => ?_) hS2 ?_
                    · go_simp
                    try simp only [List.getElem_toArray,List.getElem_cons_zero,List.getElem_cons_succ,Act.put,List.setIfInBounds_toArray,List.set_cons_zero,List.set_cons_succ]
                    refine tk 17 (.slice (some ⟨g,0,none⟩) yy.on (yy.on+1)) rfl (fun w' hSw => ?_) hS2 ?_
                    · go_simp
                    refine tk 18 (.pointer (some ⟨hx,6,none⟩)) rfl (fun w' hSw => ?_) hS2 ?_
                    · go_simp
                    refine tk 19 (.slice yy.oa yy.on yy.oc) rfl (fun w' hSw => ?_) hS2 ?_
                    · obtain ⟨g0,g1,g2,g3,g4,g5,g6,g7,g8,g9⟩:=BxAc.cells hSw
                      go_simp
                      try rfl
                    try simp only [List.getElem_toArray,List.getElem_cons_zero,List.getElem_cons_succ,Act.put,List.setIfInBounds_toArray,List.set_cons_zero,List.set_cons_succ]
                    refine wpAnyH_ready (rs:=[20]) (by kernel_rfl) (by simp) ?_
                    refine AllReadyH.cons rfl (fun K hK => ?_) AllReadyH.nil
                    go_simp
                    refine (leftI_any g yy.oa yy.on yy.oc yy.o w4 (by omega) (HOK.out.o.1.below HS4.out.q.below) HT4.out.twin).mono ?_;rintro e w5 ⟨rfl,hb5⟩
                    have HS5:=Lib.hid (HS4.out.after hb5)
                    have HX5:=Lib.hid (HX4.out.below hb5)
                    refine hK.out _ _ (HX5.out) (fun hS3 => ?_)
                    clear hK K
                    try simp only [List.getElem_toArray,List.getElem_cons_zero,List.getElem_cons_succ,Act.put,List.setIfInBounds_toArray,List.set_cons_zero,List.set_cons_succ]
                    refine tk 21 (.bool false) rfl (fun w' hSw => ?_) hS3 ?_
                    · go_simp
                    refine tk 22 (.bool false) rfl (fun w' hSw => ?_) hS3 ?_
                    · go_simp
                    refine wpAnyH_done (by kernel_rfl) ?_ _
                    try simp only [List.getElem_toArray,List.getElem_cons_zero,List.getElem_cons_succ,Act.put,List.setIfInBounds_toArray,List.set_cons_zero,List.set_cons_succ]
                    clear HSd HXd HTd hb5 HT1 ht3 hd3 HX3 HR3 HT3 HB3 ht4 hr4 HX4 HT4 HS4 HSTd hee hne
                    go_wp2_with fail
                    go_meet
                    exact ⟨bd,bl,rd,rl,rc,_,_,rfl,rfl,HS5.out,HFT.out.mono (by omega),HX5.out⟩
            · as_aux_lemma =>
                obtain ⟨f9,hf9⟩:∃ f9,yy.n.tmod 12=f9:=⟨_,rfl⟩
                have hf91:-12≤f9:=by have:=Int.lt_tmod_of_pos yy.n (show (0:Int)<12 by decide);omega
                have hf92:f9≤12:=by have:=Int.tmod_lt_of_pos yy.n (show (0:Int)<12 by decide);omega
                have e9:IntKind.i64.wrap f9=f9:=IntWalk.i64_in _ (by omega)
                have HSd:=Lib.hid (HS1.out.after (Below.refl w1.heap.size w1).drew)
                have HXd:Hid (BxAc w1.drew hx yy):=Lib.hid HX1.out
                have v7d:w1.drew.cell? ⟨hx,7,none⟩=some (.int .i64 yy.n):=v7
                have hcode:fcode R.blown=fcode D.blown:=by rw [HS1.out.q.same.2.1]
                have HFU:=Lib.hid (HSd.out.q.same.fuses f9)
                go_wp2_with fail
                go_region_held3 (fun w' => w'.cell? ⟨hx,7,none⟩=some (.int .i64 yy.n)) (first | with_reducible exact v7d | exact q4 | exact q3) (first
                  | (go_at_call 17;refine (dfuse_any bd bl D f9 w1.drew HSd.out.q.disk).mono ?_;rintro e w3 ⟨rfl,ht3,hd3⟩;have HX3:=Lib.hid (HXd.out.touch ht3 (diskNe HSd.out.q.disk HXd.out (by decide) (by decide)));have q3:w3.cell? ⟨hx,7,none⟩=some (.int .i64 yy.n):=HX3.out.cells.2.2.2.2.2.2.2.1
                     have HR3:=Lib.hid (HSd.out.ref1 ht3))
                  | (go_at_call 18;refine (rfuse_c _ rd rl rc R f9 w3 HR3.out.1).mono ?_;rintro e w4 ⟨he,ht4,hr4⟩;rw [hcode] at he;subst he;have ht4:=ht4.weaken (T:=fun k=>k=rd∨k=rl) (fun k _ hk=>.inl hk);have HX4:=Lib.hid (HX3.out.touch ht4 (refNe HR3.out.1 HX3.out (by decide) (by decide)));have q4:w4.cell? ⟨hx,7,none⟩=some (.int .i64 yy.n):=HX4.out.cells.2.2.2.2.2.2.2.1)
                  | fail)
                have HS4:=Lib.hid (HSd.out.both ht3 hd3 ht4 hr4 HFU.out)
                have HF4:=Lib.hid (fuse_fine HF1.out hf92)
                clear ht3 hd3 ht4 hr4 HR3 HX3 q3 q4 HSd HXd v7d hcode HFU v0 v1 v2 v3 v4 v5 v6 v7 v8 v9 HS1 HX1
                go_wp2_with fail
                go_meet
                exact ⟨bd,bl,rd,rl,rc,_,_,rfl,rfl,HS4.out,HF4.out.mono (by omega),HX4.out⟩
            · as_aux_lemma =>
                go_wp2_with fail
                refine (copy_disk bd bl D w1 HS1.out.q.disk).mono ?_;rintro e w3 ⟨cd,cl,rfl,hb3,k1,k2,hc3⟩
                have HC3:=Lib.hid hc3
                have HB3:=Lib.hid hb3
                have HR3:=Lib.hid (HS1.out.q.ref.below hb3)
                clear hb3 hc3 v0 v1 v2 v3 v4 v5 v6 v7 v8 v9
                go_wp2_with fail
                refine (rcopy_any _ rd rl rc R w3 HR3.out).mono ?_;rintro e w4 ⟨sd,sl,sc,rfl,hb4,hr4⟩
                have hsame:=HS1.out.q.same
                obtain ⟨D4,hD4⟩:∃ D4:Dsk,D4=⟨D.secs,-1,false,0⟩:=⟨_,rfl⟩
                obtain ⟨R4,hR4⟩:∃ R4:Dsk,R4=⟨R.secs,-1,false,0⟩:=⟨_,rfl⟩
                have HSM4:Hid (Same D4 R4):=Lib.hid (by rw [hD4,hR4];exact ⟨hsame.1,rfl,rfl,.inl rfl⟩)
                have HF4:Hid (D4.fine (10*((j:Int)+2))):=Lib.hid (by rw [hD4];exact ⟨by dsimp only;omega,by dsimp only;omega,by dsimp only;omega⟩)
                rw [← hD4] at HC3
                rw [← hR4] at hr4
                have HQ4:=Lib.hid (HS1.out.q.copied HB3.out k1 k2 HC3.out hb4 hr4 HSM4.out)
                have HX4:=Lib.hid ((HX1.out.below HB3.out).below hb4)
                have HV4:=Lib.hid ((HS1.out.b.below HB3.out).below hb4)
                have hlt4:=hr4.lt
                clear hb4 hr4 hsame hD4 hR4 HC3 HB3 HR3 k1 k2 HS1 HX1
                go_wp2_with fail
                refine (open_all cd cl D4 w4 HQ4.out.disk).mono ?_;rintro e w5 ⟨s5,rfl,hb5,ho5⟩
                have HB5:=Lib.hid hb5
                have HR5:=Lib.hid (HQ4.out.ref.below hb5)
                have HO5:=Lib.hid ho5
                have hw5:=hb5.size
                clear hb5 ho5
                go_wp2_with fail
                refine (ropen_all w.heap.size sd sl sc R4 w5 HR5.out).mono ?_;rintro e w6 ⟨t6,rfl,hb6,ho6⟩
                have hW4:=HQ4.out.below.size
                have hop:opE R4=opE D4:=by unfold opE;rw [HSM4.out.opn]
                rw [hop]
                have HP6:Hid (Prs w w6 cd cl sd sl sc s5 t6 D4 R4):=Lib.hid (by
                  rw [HSM4.out.opn] at ho6
                  rcases HO5.out with ⟨⟨k,k1⟩,k2⟩ | ⟨c5,k1,bs,yx,k3,k4,k5⟩ <;> rcases ho6 with ⟨⟨l,l1⟩,l2⟩ | ⟨c6,l1,ts,yr,l3,l4,l5⟩
                  · exact .inl ⟨k2,l2⟩
                  · rw [k1] at l1;cases l1
                  · rw [k1] at l1;cases l1
                  · rw [k1] at l1;cases l1
                    exact .inr ⟨bs,ts,yx,yr,c5,k3,l3,StB.made k4 k5 HR5.out (Touch.of_below hb6) l4 l5 (by omega) (by omega) ⟨by omega,by omega⟩ ⟨by omega,by omega⟩ (open_may k1)⟩)
                have hbb:=HB5.out.trans (hb6.mono HB5.out.size)
                have HS6:Hid (PlS w w6 cd cl sd sl sc bk (1004+30*j) bc x c s5 t6 D4 R4):=Lib.hid ⟨HQ4.out.after hbb,HP6.out,HV4.out.below hbb⟩
                have HX6:=Lib.hid (HX4.out.below hbb)
                obtain ⟨E,hE⟩:∃ E,E=opE D4:=⟨_,rfl⟩
                rw [← hE]
                have hee:(E == E)=true:=by simp
                have hne:(E != E)=false:=by simp
                clear hb6 ho6 hop hbb hE HP6 HQ4 HV4 HX4 HB5 HR5 HO5 HSM4
                go_wp2_with fail
                go_meet
                exact ⟨cd,cl,sd,sl,sc,D4,R4,rfl,rfl,HS6.out,HF4.out,HX6.out⟩
            · as_aux_lemma =>
                have HSd:=Lib.hid (HS1.out.after (Below.refl w1.heap.size w1).drew)
                have HXd:Hid (BxAc w1.drew hx yy):=Lib.hid HX1.out
                have v8d:w1.drew.cell? ⟨hx,8,none⟩=some (.int .i64 yy.at_)∧w1.drew.cell? ⟨hx,9,none⟩=some (.slice yy.ba yy.bn yy.bc):=⟨v8,v9⟩
                have HSW:=Lib.hid (HS1.out.q.same.write yy.at_ yy.b)
                have hcode:=HSW.out.1
                have HFR:=Lib.hid (HS1.out.q.same.fine HF1.out)
                go_wp2_with fail
                go_region_held3 (fun w' => w'.cell? ⟨hx,8,none⟩=some (.int .i64 yy.at_)∧w'.cell? ⟨hx,9,none⟩=some (.slice yy.ba yy.bn yy.bc)) (first | with_reducible exact v8d | exact q4 | exact q3) (first
                  | (go_at_call 23;refine (write_any bd bl D yy.at_ yy.ba yy.bn yy.bc yy.b w1.drew HSd.out.q.disk (HOK.out.b.1.below HSd.out.q.below) (HF1.out.ok (by omega))).mono ?_;rintro e w3 ⟨rfl,ht3,hd3⟩;have HX3:=Lib.hid (HXd.out.touch ht3 (diskNe HSd.out.q.disk HXd.out (by decide) (by decide)));have q3:w3.cell? ⟨hx,8,none⟩=some (.int .i64 yy.at_)∧w3.cell? ⟨hx,9,none⟩=some (.slice yy.ba yy.bn yy.bc):=HX3.out.cells.2.2.2.2.2.2.2.2
                     have HR3:=Lib.hid (HSd.out.ref1 ht3))
                  | (go_at_call 24;refine (rwrite_any _ rd rl rc R yy.at_ yy.ba yy.bn yy.bc yy.b w3 HR3.out.1 (HOK.out.b.1.below HR3.out.2) (HFR.out.ok (by omega))).mono ?_;rintro e w4 ⟨he,ht4,hr4⟩;rw [hcode] at he;subst he;have HX4:=Lib.hid (HX3.out.touch ht4 (refNe HR3.out.1 HX3.out (by decide) (by decide)));have q4:w4.cell? ⟨hx,8,none⟩=some (.int .i64 yy.at_)∧w4.cell? ⟨hx,9,none⟩=some (.slice yy.ba yy.bn yy.bc):=HX4.out.cells.2.2.2.2.2.2.2.2)
                  | fail)
                have HS4:=Lib.hid (HSd.out.both ht3 hd3 ht4 hr4 HSW.out.2)
                have HF4:=Lib.hid (HF1.out.write yy.at_ yy.b)
                clear ht3 hd3 ht4 hr4 HR3 HX3 q3 q4 HSd HXd v8d hcode HSW HFR v0 v1 v2 v3 v4 v5 v6 v7 v8 v9 HS1 HX1
                go_wp2_with fail
                go_meet
                exact ⟨bd,bl,rd,rl,rc,_,_,rfl,rfl,HS4.out,HF4.out.mono (by omega),HX4.out⟩
            · as_aux_lemma =>
                have HC1:=Lib.hid (HC.out.below HS1.out.q.below)
                go_wp2_with (first
                  | (refine wpList_load_mid rfl 27 (.tmp 4) rfl bc 0 rfl (x.cells c.t) _ HS1.out.b.row Tryz.underlying27 rfl infoCfg5 ?_)
                  | fail)
                refine (make_all _ bd bl D x c _ w1 HS1.out.q.disk HC1.out (fun k hk e=>by have:=HS1.out.q.dge;omega) HF1.out (by omega)).mono ?_
                rintro e w3 ⟨s3,rfl,ht3,hd3,-⟩
                have HX3:=Lib.hid (HX1.out.touch ht3 (diskNe HS1.out.q.disk HX1.out (by decide) (by decide)))
                have HV3:=Lib.hid (HS1.out.b.touch ht3 (diskNe HS1.out.q.disk HS1.out.b (by decide) (by decide)))
                have HR3:=Lib.hid (HS1.out.ref1 ht3)
                have HT3:=Lib.hid ht3
                have HD3:=Lib.hid hd3
                have HMK:=Lib.hid (HS1.out.q.same.make c)
                have HF3:=Lib.hid (makeD_fine (c:=c) HF1.out)
                have HC3:=Lib.hid (HC.out.below HR3.out.2)
                obtain ⟨E,hE⟩:∃ E,E=(makeD c D).1:=⟨_,rfl⟩
                rw [← hE] at HMK ⊢
                clear ht3 hd3 hE v0 v1 v2 v3 v4 v5 v6 v7 v8 v9 HC1
                have hrle:=HR3.out.1.le
                have hrlt:=HR3.out.1.lt
                go_wp2_with (first
                  | (refine wpList_load_mid rfl 27 (.tmp 4) rfl bc 0 rfl (x.cells c.t) _ HV3.out.row Tryz.underlying27 rfl infoCfg5 ?_)
                  | fail)
                refine (rmake_all _ w.heap.size rd rl rc R x c _ w3 HR3.out.1 HC3.out (fun k hk e=>by omega) (HS1.out.q.same.fine HF1.out) (by omega)).mono ?_
                rintro e w4 ⟨t4,rfl,ht4,hr4,-⟩
                rw [HMK.out.1]
                have HX4:=Lib.hid (HX3.out.touch ht4 (refNe HR3.out.1 HX3.out (by decide) (by decide)))
                have HS4:=Lib.hid (HS1.out.both HT3.out HD3.out ht4 hr4 HMK.out.2)
                have hee:(E == E)=true:=by simp
                have hne:(E != E)=false:=by simp
                clear ht4 hr4 HT3 HD3 HMK HR3 HV3 HX3 HC3 HS1 HX1 hrle hrlt
                go_wp2_with fail
                go_meet
                exact ⟨bd,bl,rd,rl,rc,_,_,rfl,rfl,HS4.out,HF3.out.mono (by omega),HX4.out⟩
            · rcases HS1.out.p with ⟨rfl,rfl⟩ | ⟨bs,ts,xs,ys,cs,rfl,rfl,hst⟩
              · as_aux_lemma =>
                  have h4:((f10:Int) == 4)=false:=by rw [beq_eq_false_iff_ne];omega
                  have h5:((f10:Int) == 5)=false:=by rw [beq_eq_false_iff_ne];omega
                  have h6:((f10:Int) == 6)=false:=by rw [beq_eq_false_iff_ne];omega
                  have h7:((f10:Int) == 7)=false:=by rw [beq_eq_false_iff_ne];omega
                  have h8:((f10:Int) == 8)=false:=by rw [beq_eq_false_iff_ne];omega
                  have h9:((f10:Int) == 9)=false:=by rw [beq_eq_false_iff_ne];omega
                  go_wp2_with (first
                    | (refine wpList_load_mid rfl 60 (.tmp 101) rfl hx 2 rfl [.int .u32 yy.r.sq,.bool yy.r.st,.slice yy.r.a yy.r.n yy.r.c] _ HX1.out.rec Tryz.underlying60 rfl infoRec3 ?_)
                    | fail)
                  clear h4 h5 h6 h7 h8 h9 hk m1 m2 m3
                  have hrl:yy.r.l.length≤1000000:=by have:=HOK.out.r.i.1;omega
                  refine (twinR_tw yy.r.sq yy.r.st yy.r.a yy.r.n yy.r.c yy.r.l w1 (HOK.out.r.i.below HS1.out.q.below) hrl).mono ?_
                  rintro e w2 ⟨g,rfl,hb2,htg,hgg⟩
                  rw [← HOK.out.r.i.1]
                  have HLR:Hid (∀ w',Below w.heap.size w w'→TwI w' g yy.r.l→Calls Tryz.prog 28 #[.agg #[.int .u32 yy.r.sq,.bool yy.r.st,.slice (some ⟨g,0,none⟩) yy.r.n (yy.r.n+1)],.agg #[.int .u32 yy.r.sq,.bool yy.r.st,.slice yy.r.a yy.r.n yy.r.c]] w' fun e w'' => e=.returned (.bool true)∧Below w'.heap.size w' w''):=Lib.hid (fun w' hb ht=>by
                    have:=leftR_any yy.r.sq g yy.r.st yy.r.a yy.r.n yy.r.c yy.r.l w' (HOK.out.r.i.below hb) hrl ht
                    rwa [← HOK.out.r.i.1] at this)
                  have hal:Below w2.heap.size w2 (w2.alloc (.cells #[.int .u32 yy.r.sq,.bool yy.r.st,.slice (some ⟨g,0,none⟩) yy.r.n (yy.r.n+1)] 60)):=(Below.refl _ _).alloc (Nat.le_refl _) _
                  have hbx:=hb2.trans (hal.mono hb2.size)
                  have HV3:Hid (BxRc (w2.alloc (.cells #[.int .u32 yy.r.sq,.bool yy.r.st,.slice (some ⟨g,0,none⟩) yy.r.n (yy.r.n+1)] 60)) w2.heap.size yy.r.sq yy.r.st (some ⟨g,0,none⟩) yy.r.n (yy.r.n+1)):=Lib.hid (heap_new w2 _)
                  have HS3:=Lib.hid (HS1.out.after hbx)
                  have HX3:=Lib.hid (HX1.out.below hbx)
                  have HT3:Hid (TwI (w2.alloc (.cells #[.int .u32 yy.r.sq,.bool yy.r.st,.slice (some ⟨g,0,none⟩) yy.r.n (yy.r.n+1)] 60)) g yy.r.l):=Lib.hid (below_heap hal htg (lt_of_heap htg))
                  have HONR:=Lib.hid (rec_oneP yy.r.sq yy.r.st (some ⟨g,0,none⟩) yy.r.n (yy.r.n+1))
                  clear hb2 htg hgg hal hbx v0 v1 v2 v3 v4 v5 v6 v7 v8 v9 HS1 HX1
                  go_wp2_with (first
                    | (refine wpList_declare rfl rfl 60 rfl (.tmp 24) (.tmp 103) rfl _ zeroRec3 #[.int .u32 yy.r.sq,.bool yy.r.st,.slice (some ⟨g,0,none⟩) yy.r.n (yy.r.n+1)] rfl (by rw [infoRec3];rfl) rfl rfl (by simpa using HONR.out) ?_)
                    | fail)
                  generalize w2.alloc (.cells #[.int .u32 yy.r.sq,.bool yy.r.st,.slice (some ⟨g,0,none⟩) yy.r.n (yy.r.n+1)] 60)=w3 at HV3 HS3 HX3 HT3 ⊢
                  obtain ⟨b24,hb24⟩:∃ b24,b24=w2.heap.size:=⟨_,rfl⟩
                  rw [← hb24] at HV3 ⊢
                  clear hb24 HONR
                  have hbd:Below w3.heap.size w3 w3.drew:=(Below.refl w3.heap.size w3).drew
                  have HSd:=Lib.hid (HS3.out.after hbd)
                  have HXd:=Lib.hid (HX3.out.below hbd)
                  have HVd:=Lib.hid (HV3.out.below hbd)
                  have HTd:Hid (TwI w3.drew g yy.r.l):=Lib.hid HT3.out
                  clear HS3 HX3 HV3 HT3 hbd
                  refine wp_region_held_drew (S:=(fun w':World=>BxAc w' hx yy∧BxRc w' b24 yy.r.sq yy.r.st (some ⟨g,0,none⟩) yy.r.n (yy.r.n+1))) (by kernel_rfl) (⟨HXd.out,HVd.out⟩) (fun hS0 => ?_)
                  refine tk 0 (.pointer none) rfl (fun w' hSw => ?_) hS0 ?_
                  · go_simp
                  refine tk 1 (.bool false) rfl (fun w' hSw => ?_) hS0 ?_
                  · go_simp
                  refine tk 2 (.bool false) rfl (fun w' hSw => ?_) hS0 ?_
                  · go_simp
                  try simp only [List.getElem_toArray,List.getElem_cons_zero,List.getElem_cons_succ,Act.put,List.setIfInBounds_toArray,List.set_cons_zero,List.set_cons_succ]
                  refine tn 3 rfl hS0 ?_
                  refine tn 4 rfl hS0 ?_
                  refine tn 5 rfl hS0 ?_
                  try simp only [List.getElem_toArray,List.getElem_cons_zero,List.getElem_cons_succ,Act.put,List.setIfInBounds_toArray,List.set_cons_zero,List.set_cons_succ]
                  refine tn 6 rfl hS0 ?_
                  refine tn 7 rfl hS0 ?_
                  refine tn 8 rfl hS0 ?_
                  try simp only [List.getElem_toArray,List.getElem_cons_zero,List.getElem_cons_succ,Act.put,List.setIfInBounds_toArray,List.set_cons_zero,List.set_cons_succ]
                  refine tn 9 rfl hS0 ?_
                  refine tn 10 rfl hS0 ?_
                  refine tn 11 rfl hS0 ?_
                  try simp only [List.getElem_toArray,List.getElem_cons_zero,List.getElem_cons_succ,Act.put,List.setIfInBounds_toArray,List.set_cons_zero,List.set_cons_succ]
                  refine tn 12 rfl hS0 ?_
                  refine tn 13 rfl hS0 ?_
                  refine tn 14 rfl hS0 ?_
                  try simp only [List.getElem_toArray,List.getElem_cons_zero,List.getElem_cons_succ,Act.put,List.setIfInBounds_toArray,List.set_cons_zero,List.set_cons_succ]
                  refine tk 15 (.bool false) rfl (fun w' hSw => ?_) hS0 ?_
                  · go_simp
                  refine tk 16 (.bool false) rfl (fun w' hSw => ?_) hS0 ?_
                  · go_simp
                  refine tk 17 (.agg #[.int .u32 yy.r.sq,.bool yy.r.st,.slice (some ⟨g,0,none⟩) yy.r.n (yy.r.n+1)]) rfl (fun w' hSw => ?_) hS0 ?_
                  · obtain ⟨g0,g1,g2,g3,g4,g5,g6,g7,g8,g9⟩:=BxAc.cells hSw.1
                    obtain ⟨f0,f1,f2⟩:=BxRc.cells hSw.2
                    go_simp
                    try rfl
                  try simp only [List.getElem_toArray,List.getElem_cons_zero,List.getElem_cons_succ,Act.put,List.setIfInBounds_toArray,List.set_cons_zero,List.set_cons_succ]
                  refine tk 18 (.pointer (some ⟨hx,2,none⟩)) rfl (fun w' hSw => ?_) hS0 ?_
                  · go_simp
                  refine tk 19 (.agg #[.int .u32 yy.r.sq,.bool yy.r.st,.slice yy.r.a yy.r.n yy.r.c]) rfl (fun w' hSw => ?_) hS0 ?_
                  · obtain ⟨g0,g1,g2,g3,g4,g5,g6,g7,g8,g9⟩:=BxAc.cells hSw.1
                    obtain ⟨f0,f1,f2⟩:=BxRc.cells hSw.2
                    go_simp
                    try rfl
                  try simp only [List.getElem_toArray,List.getElem_cons_zero,List.getElem_cons_succ,Act.put,List.setIfInBounds_toArray,List.set_cons_zero,List.set_cons_succ]
                  refine wpAnyH_ready (rs:=[20]) (by kernel_rfl) (by simp) ?_
                  refine AllReadyH.cons rfl (fun K hK => ?_) AllReadyH.nil
                  go_simp
                  refine (HLR.out w3.drew HSd.out.q.below HTd.out).mono ?_;rintro e w5 ⟨rfl,hb5⟩
                  have HS5:=Lib.hid (HSd.out.after hb5)
                  have HX5:=Lib.hid (HXd.out.below hb5)
                  have HV5:=Lib.hid (HVd.out.below hb5)
                  refine hK.out _ _ (⟨HX5.out,HV5.out⟩) (fun hS1 => ?_)
                  clear hK K
                  try simp only [List.getElem_toArray,List.getElem_cons_zero,List.getElem_cons_succ,Act.put,List.setIfInBounds_toArray,List.set_cons_zero,List.set_cons_succ]
                  refine tk 21 (.bool false) rfl (fun w' hSw => ?_) hS1 ?_
                  · go_simp
                  refine tk 22 (.bool false) rfl (fun w' hSw => ?_) hS1 ?_
                  · go_simp
                  refine wpAnyH_done (by kernel_rfl) ?_ _
                  try simp only [List.getElem_toArray,List.getElem_cons_zero,List.getElem_cons_succ,Act.put,List.setIfInBounds_toArray,List.set_cons_zero,List.set_cons_succ]
                  clear HSd HXd HVd HTd hb5 HV5
                  go_wp2_with fail
                  go_meet
                  exact ⟨bd,bl,rd,rl,rc,D,R,rfl,rfl,HS5.out,HF1.out.mono (by omega),HX5.out⟩
              · as_aux_lemma =>
                  have hmay:=(mayB_iff cs).1 hst.may
                  have hs8:=hmay.s.2
                  have hr8:=hmay.r.2.1
                  have HST:=Lib.hid hst
                  clear hst hmay
                  have h4:((f10:Int) == 4)=false:=by rw [beq_eq_false_iff_ne];omega
                  have h5:((f10:Int) == 5)=false:=by rw [beq_eq_false_iff_ne];omega
                  have h6:((f10:Int) == 6)=false:=by rw [beq_eq_false_iff_ne];omega
                  have h7:((f10:Int) == 7)=false:=by rw [beq_eq_false_iff_ne];omega
                  have h8:((f10:Int) == 8)=false:=by rw [beq_eq_false_iff_ne];omega
                  have h9:((f10:Int) == 9)=false:=by rw [beq_eq_false_iff_ne];omega
                  go_wp2_with (first
                    | (refine wpList_load_mid rfl 60 (.tmp 101) rfl hx 2 rfl [.int .u32 yy.r.sq,.bool yy.r.st,.slice yy.r.a yy.r.n yy.r.c] _ HX1.out.rec Tryz.underlying60 rfl infoRec3 ?_)
                    | fail)
                  clear h4 h5 h6 h7 h8 h9 hk m1 m2 m3
                  have hrl:yy.r.l.length≤1000000:=by have:=HOK.out.r.i.1;omega
                  refine (twinR_tw yy.r.sq yy.r.st yy.r.a yy.r.n yy.r.c yy.r.l w1 (HOK.out.r.i.below HS1.out.q.below) hrl).mono ?_
                  rintro e w2 ⟨g,rfl,hb2,htg,hgg⟩
                  rw [← HOK.out.r.i.1]
                  have HLR:Hid (∀ w',Below w.heap.size w w'→TwI w' g yy.r.l→Calls Tryz.prog 28 #[.agg #[.int .u32 yy.r.sq,.bool yy.r.st,.slice (some ⟨g,0,none⟩) yy.r.n (yy.r.n+1)],.agg #[.int .u32 yy.r.sq,.bool yy.r.st,.slice yy.r.a yy.r.n yy.r.c]] w' fun e w'' => e=.returned (.bool true)∧Below w'.heap.size w' w''):=Lib.hid (fun w' hb ht=>by
                    have:=leftR_any yy.r.sq g yy.r.st yy.r.a yy.r.n yy.r.c yy.r.l w' (HOK.out.r.i.below hb) hrl ht
                    rwa [← HOK.out.r.i.1] at this)
                  have hal:Below w2.heap.size w2 (w2.alloc (.cells #[.int .u32 yy.r.sq,.bool yy.r.st,.slice (some ⟨g,0,none⟩) yy.r.n (yy.r.n+1)] 60)):=(Below.refl _ _).alloc (Nat.le_refl _) _
                  have hbx:=hb2.trans (hal.mono hb2.size)
                  have HV3:Hid (BxRc (w2.alloc (.cells #[.int .u32 yy.r.sq,.bool yy.r.st,.slice (some ⟨g,0,none⟩) yy.r.n (yy.r.n+1)] 60)) w2.heap.size yy.r.sq yy.r.st (some ⟨g,0,none⟩) yy.r.n (yy.r.n+1)):=Lib.hid (heap_new w2 _)
                  have HS3:=Lib.hid (HS1.out.after hbx)
                  have HX3:=Lib.hid (HX1.out.below hbx)
                  have HT3:Hid (TwI (w2.alloc (.cells #[.int .u32 yy.r.sq,.bool yy.r.st,.slice (some ⟨g,0,none⟩) yy.r.n (yy.r.n+1)] 60)) g yy.r.l):=Lib.hid (below_heap hal htg (lt_of_heap htg))
                  have HST3:=Lib.hid (HST.out.after hbx)
                  have HONR:=Lib.hid (rec_oneP yy.r.sq yy.r.st (some ⟨g,0,none⟩) yy.r.n (yy.r.n+1))
                  clear HST hb2 htg hgg hal hbx v0 v1 v2 v3 v4 v5 v6 v7 v8 v9 HS1 HX1
                  go_wp2_with (first
                    | (refine wpList_declare rfl rfl 60 rfl (.tmp 24) (.tmp 103) rfl _ zeroRec3 #[.int .u32 yy.r.sq,.bool yy.r.st,.slice (some ⟨g,0,none⟩) yy.r.n (yy.r.n+1)] rfl (by rw [infoRec3];rfl) rfl rfl (by simpa using HONR.out) ?_)
                    | fail)
                  generalize w2.alloc (.cells #[.int .u32 yy.r.sq,.bool yy.r.st,.slice (some ⟨g,0,none⟩) yy.r.n (yy.r.n+1)] 60)=w3 at HV3 HS3 HX3 HT3 HST3 ⊢
                  obtain ⟨b24,hb24⟩:∃ b24,b24=w2.heap.size:=⟨_,rfl⟩
                  rw [← hb24] at HV3 ⊢
                  clear hb24 HONR
                  have hbd:Below w3.heap.size w3 w3.drew:=(Below.refl w3.heap.size w3).drew
                  have HSd:=Lib.hid (HS3.out.after hbd)
                  have HXd:=Lib.hid (HX3.out.below hbd)
                  have HVd:=Lib.hid (HV3.out.below hbd)
                  have HTd:Hid (TwI w3.drew g yy.r.l):=Lib.hid HT3.out
                  have HSTd:=Lib.hid (HST3.out.after hbd)
                  clear HS3 HX3 HV3 HT3 HST3 hbd
                  have HSAME:=Lib.hid HSd.out.q.same
                  have hti:IsI w3.drew (some ⟨g,0,none⟩) yy.r.n (yy.r.n+1) yy.r.l:=⟨HOK.out.r.i.1,by have:=HOK.out.r.i.1;omega,by unfold maxLen;omega,.inr ⟨g,0,rfl,lt_of_heap HTd.out,fun i hi=>by rw [Nat.zero_add];exact HTd.out.twin.2.1 i hi⟩⟩
                  have HT1:=Lib.hid (set_all bs bd bl xs cs D yy.who yy.r.sq yy.r.st (some ⟨g,0,none⟩) yy.r.n (yy.r.n+1) yy.r.l _ w3.drew HSTd.out.ps hti HOK.out.r.sq (by omega) (by omega) HF1.out (by omega) (fun i hi=>get_lt32 HSTd.out.ps.disk _))
                  have HTT:=Lib.hid (HSAME.out.set cs.s.length cs.r.length yy.who ⟨yy.r.sq,yy.r.st,yy.r.l⟩)
                  have HFT:=Lib.hid (setD_fine HF1.out cs.s.length cs.r.length yy.who ⟨yy.r.sq,yy.r.st,yy.r.l⟩)
                  obtain ⟨E,hE⟩:∃ E,E=(setD cs.s.length cs.r.length D yy.who ⟨yy.r.sq,yy.r.st,yy.r.l⟩).1:=⟨_,rfl⟩
                  rw [← hE] at HT1 HTT
                  clear hE hti
                  have hee:(E == E)=true:=by simp
                  have hne:(E != E)=false:=by simp
                  refine wp_region_held_drew (S:=(fun w':World=>BxAc w' hx yy∧BxRc w' b24 yy.r.sq yy.r.st (some ⟨g,0,none⟩) yy.r.n (yy.r.n+1))) (by kernel_rfl) (⟨HXd.out,HVd.out⟩) (fun hS0 => ?_)
                  refine tk 0 (.pointer (some ⟨ts,0,none⟩)) rfl (fun w' hSw => ?_) hS0 ?_
                  · go_simp
                  refine tk 1 (.bool true) rfl (fun w' hSw => ?_) hS0 ?_
                  · go_simp
                  refine tk 2 (.bool true) rfl (fun w' hSw => ?_) hS0 ?_
                  · go_simp
                  try simp only [List.getElem_toArray,List.getElem_cons_zero,List.getElem_cons_succ,Act.put,List.setIfInBounds_toArray,List.set_cons_zero,List.set_cons_succ]
                  refine tk 3 (.pointer (some ⟨bs,0,none⟩)) rfl (fun w' hSw => ?_) hS0 ?_
                  · go_simp
                  refine tk 4 (.pointer (some ⟨hx,1,none⟩)) rfl (fun w' hSw => ?_) hS0 ?_
                  · go_simp
                  refine tk 5 (.int .i64 yy.who) rfl (fun w' hSw => ?_) hS0 ?_
                  · obtain ⟨g0,g1,g2,g3,g4,g5,g6,g7,g8,g9⟩:=BxAc.cells hSw.1
                    obtain ⟨f0,f1,f2⟩:=BxRc.cells hSw.2
                    go_simp
                    try rfl
                  try simp only [List.getElem_toArray,List.getElem_cons_zero,List.getElem_cons_succ,Act.put,List.setIfInBounds_toArray,List.set_cons_zero,List.set_cons_succ]
                  refine tk 6 (.agg #[.int .u32 yy.r.sq,.bool yy.r.st,.slice (some ⟨g,0,none⟩) yy.r.n (yy.r.n+1)]) rfl (fun w' hSw => ?_) hS0 ?_
                  · obtain ⟨g0,g1,g2,g3,g4,g5,g6,g7,g8,g9⟩:=BxAc.cells hSw.1
                    obtain ⟨f0,f1,f2⟩:=BxRc.cells hSw.2
                    go_simp
                    try rfl
                  refine tk 8 (.pointer (some ⟨ts,0,none⟩)) rfl (fun w' hSw => ?_) hS0 ?_
                  · go_simp
                  refine tk 9 (.pointer (some ⟨hx,1,none⟩)) rfl (fun w' hSw => ?_) hS0 ?_
                  · go_simp
                  try simp only [List.getElem_toArray,List.getElem_cons_zero,List.getElem_cons_succ,Act.put,List.setIfInBounds_toArray,List.set_cons_zero,List.set_cons_succ]
                  refine tk 10 (.int .i64 yy.who) rfl (fun w' hSw => ?_) hS0 ?_
                  · obtain ⟨g0,g1,g2,g3,g4,g5,g6,g7,g8,g9⟩:=BxAc.cells hSw.1
                    obtain ⟨f0,f1,f2⟩:=BxRc.cells hSw.2
                    go_simp
                    try rfl
                  refine tk 11 (.pointer (some ⟨hx,2,none⟩)) rfl (fun w' hSw => ?_) hS0 ?_
                  · go_simp
                  refine tk 12 (.agg #[.int .u32 yy.r.sq,.bool yy.r.st,.slice yy.r.a yy.r.n yy.r.c]) rfl (fun w' hSw => ?_) hS0 ?_
                  · obtain ⟨g0,g1,g2,g3,g4,g5,g6,g7,g8,g9⟩:=BxAc.cells hSw.1
                    obtain ⟨f0,f1,f2⟩:=BxRc.cells hSw.2
                    go_simp
                    try rfl
                  try simp only [List.getElem_toArray,List.getElem_cons_zero,List.getElem_cons_succ,Act.put,List.setIfInBounds_toArray,List.set_cons_zero,List.set_cons_succ]
                  refine wpAnyH_ready (rs:=[7]) (by kernel_rfl) (by simp) ?_
                  refine AllReadyH.cons rfl (fun K hK => ?_) AllReadyH.nil
                  go_simp
                  refine HT1.out.mono ?_;rintro e w3 ⟨rfl,ht3,hd3⟩
                  have HX3:=Lib.hid (HXd.out.touch ht3 (diskNe HSd.out.q.disk HXd.out (by decide) (by decide)))
                  have HV3:=Lib.hid (HVd.out.touch ht3 (diskNe HSd.out.q.disk HVd.out (by decide) (by decide)))
                  have HR3:=Lib.hid (HSd.out.ref1 ht3)
                  have HT3:Hid (TwI w3 g yy.r.l):=Lib.hid (ht3.heap HTd.out (diskNe HSd.out.q.disk HTd.out (by decide) (by decide)))
                  have HB3:=Lib.hid (HSTd.out.first ht3 hd3)
                  refine hK.out _ _ (⟨HX3.out,HV3.out⟩) (fun hS1 => ?_)
                  clear hK K
                  try simp only [List.getElem_toArray,List.getElem_cons_zero,List.getElem_cons_succ,Act.put,List.setIfInBounds_toArray,List.set_cons_zero,List.set_cons_succ]
                  refine wpAnyH_ready (rs:=[13]) (by kernel_rfl) (by simp) ?_
                  refine AllReadyH.cons rfl (fun K hK => ?_) AllReadyH.nil
                  go_simp
                  refine (rset_all ts w.heap.size rd rl rc ys cs R yy.who yy.r.sq yy.r.st yy.r.a yy.r.n yy.r.c yy.r.l _ w3 HB3.out.rs (HOK.out.r.i.below HR3.out.2) HOK.out.r.sq (by omega) (by omega) (HSAME.out.fine HF1.out) (by omega) (fun i hi=>by rw [HSAME.out.get];exact get_lt32 HSd.out.q.disk _)).mono ?_;rintro e w4 ⟨he,ht4,hr4⟩
                  rw [HTT.out.1] at he;subst he
                  have HX4:=Lib.hid (HX3.out.touch ht4 (refNe HR3.out.1 HX3.out (by decide) (by decide)))
                  have HV4:=Lib.hid (HV3.out.touch ht4 (refNe HR3.out.1 HV3.out (by decide) (by decide)))
                  have HT4:Hid (TwI w4 g yy.r.l):=Lib.hid (ht4.heap HT3.out (refNe HR3.out.1 HT3.out (by decide) (by decide)))
                  have HS4:=Lib.hid (HSd.out.both ht3 hd3 ht4 hr4 HTT.out.2)
                  refine hK.out _ _ (⟨HX4.out,HV4.out⟩) (fun hS2 => ?_)
                  clear hK K
                  try simp only [List.getElem_toArray,List.getElem_cons_zero,List.getElem_cons_succ,Act.put,List.setIfInBounds_toArray,List.set_cons_zero,List.set_cons_succ]
                  refine tk 14 (.bool false) rfl (fun w' hSw => ?_) hS2 ?_
                  · go_simp
                  refine tk 15 (.bool false) rfl (fun w' hSw => ?_) hS2 ?_
                  · go_simp
                  refine tk 16 (.bool false) rfl (fun w' hSw => ?_) hS2 ?_
                  · go_simp
                  try simp only [List.getElem_toArray,List.getElem_cons_zero,List.getElem_cons_succ,Act.put,List.setIfInBounds_toArray,List.set_cons_zero,List.set_cons_succ]
                  refine tk 17 (.agg #[.int .u32 yy.r.sq,.bool yy.r.st,.slice (some ⟨g,0,none⟩) yy.r.n (yy.r.n+1)]) rfl (fun w' hSw => ?_) hS2 ?_
                  · obtain ⟨g0,g1,g2,g3,g4,g5,g6,g7,g8,g9⟩:=BxAc.cells hSw.1
                    obtain ⟨f0,f1,f2⟩:=BxRc.cells hSw.2
                    go_simp
                    try rfl
                  refine tk 18 (.pointer (some ⟨hx,2,none⟩)) rfl (fun w' hSw => ?_) hS2 ?_
                  · go_simp
                  refine tk 19 (.agg #[.int .u32 yy.r.sq,.bool yy.r.st,.slice yy.r.a yy.r.n yy.r.c]) rfl (fun w' hSw => ?_) hS2 ?_
                  · obtain ⟨g0,g1,g2,g3,g4,g5,g6,g7,g8,g9⟩:=BxAc.cells hSw.1
                    obtain ⟨f0,f1,f2⟩:=BxRc.cells hSw.2
                    go_simp
                    try rfl
                  try simp only [List.getElem_toArray,List.getElem_cons_zero,List.getElem_cons_succ,Act.put,List.setIfInBounds_toArray,List.set_cons_zero,List.set_cons_succ]
                  refine wpAnyH_ready (rs:=[20]) (by kernel_rfl) (by simp) ?_
                  refine AllReadyH.cons rfl (fun K hK => ?_) AllReadyH.nil
                  go_simp
                  refine (HLR.out w4 HS4.out.q.below HT4.out).mono ?_;rintro e w5 ⟨rfl,hb5⟩
                  have HS5:=Lib.hid (HS4.out.after hb5)
                  have HX5:=Lib.hid (HX4.out.below hb5)
                  have HV5:=Lib.hid (HV4.out.below hb5)
                  refine hK.out _ _ (⟨HX5.out,HV5.out⟩) (fun hS3 => ?_)
                  clear hK K
                  try simp only [List.getElem_toArray,List.getElem_cons_zero,List.getElem_cons_succ,Act.put,List.setIfInBounds_toArray,List.set_cons_zero,List.set_cons_succ]
                  refine tk 21 (.bool false) rfl (fun w' hSw => ?_) hS3 ?_
                  · go_simp
                  refine tk 22 (.bool false) rfl (fun w' hSw => ?_) hS3 ?_
                  · go_simp
                  refine wpAnyH_done (by kernel_rfl) ?_ _
                  try simp only [List.getElem_toArray,List.getElem_cons_zero,List.getElem_cons_succ,Act.put,List.setIfInBounds_toArray,List.set_cons_zero,List.set_cons_succ]
                  clear HSd HXd HVd HTd hb5 HT1 ht3 hd3 HX3 HV3 HR3 HT3 HB3 ht4 hr4 HX4 HV4 HT4 HS4 HSTd hee hne HV5
                  go_wp2_with fail
                  go_meet
                  exact ⟨bd,bl,rd,rl,rc,_,_,rfl,rfl,HS5.out,HFT.out.mono (by omega),HX5.out⟩
          case rest =>
           as_aux_lemma =>
            obtain ⟨bd,bl,rd,rl,rc,D,R,rfl,rfl,hS,hF,hX⟩:=hcut
            obtain ⟨w0,rfl⟩:∃ w0:World,w0=wc:=⟨_,rfl⟩
            have HS0:=Lib.hid hS
            have HF0:=Lib.hid hF
            have HX0:=Lib.hid hX
            clear hF hX v0 v1 v2 v3 v4 v5 v6 v7 v8 v9 HS1 HX1 HF1
            rcases hS.p with ⟨rfl,rfl⟩ | ⟨bs,ts,xs,ys,cs,rfl,rfl,hst⟩
            · as_aux_lemma =>
                clear hS
                go_wp2_with fail
                go_roundw
                case rel=>exact ⟨j+1,bd,bl,rd,rl,rc,D,R,_,_,hj1,rfl,rfl,rfl,rfl,by go_num,Lib.hid ⟨HS0.out.more (by omega),HF0.out.mono (by omega)⟩⟩
                case measure=>simp [intOf];omega
            · as_aux_lemma =>
                have hmay:=(mayB_iff cs).1 hst.may
                have HMAY:=Lib.hid hmay
                have hs8:=hmay.s.2
                have hr8:=hmay.r.2.1
                have HST0:=Lib.hid hst
                have HSAME:=Lib.hid hS.q.same
                have hrlt:=hS.q.ref.lt
                have hW0:=hS.q.below.size
                have HK0:Hid (BkP w0 w.heap.size bk (QL w0.heap.size rd rl) (1004+30*j)):=Lib.hid hS.q.book
                clear hst hS hmay
                go_wp2_with fail
                refine (config_pub bs bd bl xs cs D w0 HST0.out.ps HMAY.out).mono ?_;rintro e w1 ⟨y1,rfl,hb1,hcf1,hco1⟩
                have HT1:=Lib.hid (TlC.of (B:=w.heap.size) hco1 hW0 HMAY.out (Nat.le_refl _))
                have hw1:=hb1.size
                have hal:Below w1.heap.size w1 (w1.alloc (.cells (y1.cells cs.t).toArray 27)):=(Below.refl _ _).alloc (Nat.le_refl _) _
                have HBXb25:Hid (BxCf (w1.alloc (.cells (y1.cells cs.t).toArray 27)) w1.heap.size y1 cs):=Lib.hid (heap_new w1 _)
                have HL2:=Lib.hid (hb1.trans (hal.mono hb1.size))
                have HT2:=Lib.hid (HT1.out.below hal)
                have HCF2:=Lib.hid (hcf1.below hal)
                have HON1:=Lib.hid (StA.one y1 cs.t)
                have hw2:=hal.size
                clear hb1 hcf1 hco1 hal HT1
                go_wp2_with (first
                  | (refine wpList_declare rfl rfl 27 rfl (.tmp 25) (.tmp 233) rfl _ zeroCfg5 (y1.cells cs.t).toArray rfl (by rw [infoCfg5];rfl) rfl rfl (by simpa using HON1.out) ?_
                     generalize w1.alloc (.cells (y1.cells cs.t).toArray 27)=w2 at HBXb25 HL2 HT2 HCF2 hw2 ⊢
                     obtain ⟨b25,hb25⟩:∃ b25,b25=w1.heap.size:=⟨_,rfl⟩
                     rw [← hb25] at HBXb25 ⊢
                     clear hb25
                     obtain ⟨-,v1,-⟩:=(HX0.out.below HL2.out).cells)
                  | fail)
                refine (rec_all bs bd bl xs cs D yy.who w2 (HST0.out.after HL2.out).ps (by omega) (by omega)).mono ?_;rintro e w3 ⟨ra,rfl,hb3,hn3⟩
                have hrlen:=recK_len HMAY.out D yy.who
                obtain ⟨X,hX⟩:∃ X,X=recK cs D yy.who:=⟨_,rfl⟩
                rw [← hX] at hn3 hrlen ⊢
                have HRE:=Lib.hid hX
                clear hX
                obtain ⟨⟨rq,rt,rb⟩,re⟩:=X
                dsimp only at hn3 hrlen ⊢
                have HI3:=Lib.hid hn3.isIp.1
                have HR3:=Lib.hid (TlI.of (B:=w.heap.size) hn3 (Nat.le_trans hW0 (Nat.le_trans hw1 hw2)) hrlen (Nat.le_refl _))
                have hw3:=hb3.size
                have hal:Below w3.heap.size w3 (w3.alloc (.cells #[.int .u32 rq,.bool rt,.slice ra rb.length rb.length] 60)):=(Below.refl _ _).alloc (Nat.le_refl _) _
                have hbx:=hb3.trans (hal.mono hb3.size)
                have HBXb27:Hid (BxRc (w3.alloc (.cells #[.int .u32 rq,.bool rt,.slice ra rb.length rb.length] 60)) w3.heap.size rq rt ra rb.length rb.length):=Lib.hid (heap_new w3 _)
                have HL4:=Lib.hid (HL2.out.trans (hbx.mono HL2.out.size))
                have HT4:=Lib.hid (HT2.out.below hbx)
                have HCF4:=Lib.hid (HCF2.out.below hbx)
                have HV4:=Lib.hid (HBXb25.out.below hbx)
                have HI4:=Lib.hid (HI3.out.below hal)
                have HR4:=Lib.hid (HR3.out.below hal)
                have HON2:=Lib.hid (rec_oneP rq rt ra rb.length rb.length)
                have hw4:=hal.size
                clear hb3 hn3 hal hbx HI3 HR3 HL2 HT2 HCF2 HBXb25 HON1 v1
                go_wp2_with (first
                  | (refine wpList_declare rfl rfl 60 rfl (.tmp 27) (.tmp 240) rfl _ zeroRec3 #[.int .u32 rq,.bool rt,.slice ra rb.length rb.length] rfl (by rw [infoRec3];rfl) rfl rfl (by simpa using HON2.out) ?_
                     generalize w3.alloc (.cells #[.int .u32 rq,.bool rt,.slice ra rb.length rb.length] 60)=w4 at HBXb27 HL4 HT4 HCF4 HV4 HI4 HR4 hw4 ⊢
                     obtain ⟨b27,hb27⟩:∃ b27,b27=w3.heap.size:=⟨_,rfl⟩
                     rw [← hb27] at HBXb27 ⊢
                     clear hb27
                     obtain ⟨-,v1,-⟩:=(HX0.out.below HL4.out).cells)
                  | fail)
                refine (rrec_all ts w.heap.size rd rl rc ys cs R yy.who w4 (HST0.out.after HL4.out).rs (by omega) (by omega)).mono ?_;rintro e w5 ⟨qa,qm,qc,rfl,hb5,hi5⟩
                rw [HSAME.out.rec cs yy.who,← HRE.out] at hi5 ⊢
                dsimp only at hi5 ⊢
                have hal:Below w5.heap.size w5 (w5.alloc (.cells #[.int .u32 rq,.bool rt,.slice qa qm qc] 60)):=(Below.refl _ _).alloc (Nat.le_refl _) _
                have hbx:=hb5.trans (hal.mono hb5.size)
                have HBXb29:Hid (BxRc (w5.alloc (.cells #[.int .u32 rq,.bool rt,.slice qa qm qc] 60)) w5.heap.size rq rt qa qm qc):=Lib.hid (heap_new w5 _)
                have HL6:=Lib.hid (HL4.out.trans (hbx.mono HL4.out.size))
                have HT6:=Lib.hid (HT4.out.below hbx)
                have HCF6:=Lib.hid (HCF4.out.below hbx)
                have HV6:=Lib.hid (HV4.out.below hbx)
                have HU6:=Lib.hid (HBXb27.out.below hbx)
                have HI6:=Lib.hid (HI4.out.below hbx)
                have HR6:=Lib.hid (HR4.out.below hbx)
                have HJ6:=Lib.hid (hi5.below hal)
                have HON3:=Lib.hid (rec_oneP rq rt qa qm qc)
                have hw6:w4.heap.size≤(w5.alloc (.cells #[.int .u32 rq,.bool rt,.slice qa qm qc] 60)).heap.size:=hbx.size
                clear hb5 hi5 hal hbx HL4 HT4 HCF4 HV4 HBXb27 HI4 HR4 HON2 v1
                go_wp2_with (first
                  | (refine wpList_declare rfl rfl 60 rfl (.tmp 29) (.tmp 247) rfl _ zeroRec3 #[.int .u32 rq,.bool rt,.slice qa qm qc] rfl (by rw [infoRec3];rfl) rfl rfl (by simpa using HON3.out) ?_
                     generalize w5.alloc (.cells #[.int .u32 rq,.bool rt,.slice qa qm qc] 60)=w6 at HBXb29 HL6 HT6 HCF6 HV6 HU6 HI6 HR6 HJ6 hw6 ⊢
                     obtain ⟨b29,hb29⟩:∃ b29,b29=w5.heap.size:=⟨_,rfl⟩
                     rw [← hb29] at HBXb29 ⊢
                     clear hb29)
                  | fail)
                refine (order_pub bs bd bl xs cs D w6 (HST0.out.after HL6.out).ps).mono ?_;rintro e w7 ⟨oa,rfl,hb7,hn7⟩
                have holen:=ordL_len cs.s.length D hs8
                obtain ⟨ol,hol⟩:∃ ol,ol=ordL cs.s.length D:=⟨_,rfl⟩
                obtain ⟨oe,hoe⟩:∃ oe,oe=ordE cs.s.length D:=⟨_,rfl⟩
                rw [← hol] at hn7 holen
                rw [← hol,← hoe]
                have HOL:=Lib.hid hol
                have HOE:=Lib.hid hoe
                have HL7:=Lib.hid (HL6.out.trans (hb7.mono HL6.out.size))
                have HT7:=Lib.hid (HT6.out.below hb7)
                have HCF7:=Lib.hid (HCF6.out.below hb7)
                have HV7:=Lib.hid (HV6.out.below hb7)
                have HU7:=Lib.hid (HU6.out.below hb7)
                have HS7:=Lib.hid (HBXb29.out.below hb7)
                have HI7:=Lib.hid (HI6.out.below hb7)
                have HR7:=Lib.hid (HR6.out.below hb7)
                have HJ7:=Lib.hid (HJ6.out.below hb7)
                have HO7:=Lib.hid hn7.isIp.1
                have HQ7:=Lib.hid (TlI.of (B:=w.heap.size) hn7 (by omega) holen (Nat.le_refl _))
                have hw7:=hb7.size
                clear hb7 hn7 hol hoe HL6 HT6 HCF6 HV6 HU6 HBXb29 HI6 HR6 HJ6 HON3
                go_wp2_with fail
                refine (rorder_pub ts w.heap.size rd rl rc ys cs R w7 (HST0.out.after HL7.out).rs (by omega)).mono ?_;rintro e w8 ⟨pa,pm,pc,rfl,hb8,hi8⟩
                rw [HSAME.out.oL,← HOL.out] at hi8
                rw [HSAME.out.oE,← HOE.out]
                have HL8:=Lib.hid (HL7.out.trans (hb8.mono HL7.out.size))
                have HT8:=Lib.hid (HT7.out.below hb8)
                have HCF8:=Lib.hid (HCF7.out.below hb8)
                have HV8:=Lib.hid (HV7.out.below hb8)
                have HU8:=Lib.hid (HU7.out.below hb8)
                have HS8:=Lib.hid (HS7.out.below hb8)
                have HI8:=Lib.hid (HI7.out.below hb8)
                have HR8:=Lib.hid (HR7.out.below hb8)
                have HJ8:=Lib.hid (HJ7.out.below hb8)
                have HO8:=Lib.hid (HO7.out.below hb8)
                have HQ8:=Lib.hid (HQ7.out.below hb8)
                have HP8:=Lib.hid hi8
                have hw8:=hb8.size
                clear hb8 hi8 HL7 HT7 HCF7 HV7 HU7 HS7 HI7 HR7 HJ7 HO7 HQ7
                go_wp2_with fail
                refine (market_pub bs bd bl xs cs D w8 (HST0.out.after HL8.out).ps (by omega) (by omega)).mono ?_;rintro e w9 ⟨hq9,hb9⟩
                obtain ⟨mx,rfl,him,hmo⟩:=hq9.is
                rw [mktR_may HMAY.out] at him hmo ⊢
                dsimp only at him hmo ⊢
                rw [← HOE.out]
                obtain ⟨ml1,ml2,ml3,ml4⟩:=mkN_len HMAY.out D
                have hml3:=Lib.hid ml3
                obtain ⟨MM,hMM⟩:∃ MM,MM=mkN cs D:=⟨_,rfl⟩
                rw [← hMM] at him hmo ml1 ml2 ml4 hml3
                have HMM:=Lib.hid hMM
                have HM9:=Lib.hid (TlM.of (B:=w.heap.size) hmo (by omega) ml1 ml2 hml3.out ml4 (Nat.le_refl _))
                have hw9:=hb9.size
                have hal:Below w9.heap.size w9 (w9.alloc (.cells mx.cells.toArray 84)):=(Below.refl _ _).alloc (Nat.le_refl _) _
                have hbx:=hb9.trans (hal.mono hb9.size)
                have HBXb35:Hid (BxMk (w9.alloc (.cells mx.cells.toArray 84)) w9.heap.size mx):=Lib.hid (heap_new w9 _)
                have HL10:=Lib.hid (HL8.out.trans (hbx.mono HL8.out.size))
                have HT10:=Lib.hid (HT8.out.below hbx)
                have HCF10:=Lib.hid (HCF8.out.below hbx)
                have HV10:=Lib.hid (HV8.out.below hbx)
                have HU10:=Lib.hid (HU8.out.below hbx)
                have HS10:=Lib.hid (HS8.out.below hbx)
                have HI10:=Lib.hid (HI8.out.below hbx)
                have HR10:=Lib.hid (HR8.out.below hbx)
                have HJ10:=Lib.hid (HJ8.out.below hbx)
                have HO10:=Lib.hid (HO8.out.below hbx)
                have HQ10:=Lib.hid (HQ8.out.below hbx)
                have HP10:=Lib.hid (HP8.out.below hbx)
                have HN10:=Lib.hid (him.below hal)
                have HM10:=Lib.hid (HM9.out.below hal)
                have HON4:=Lib.hid mx.one
                have hw10:=hal.size
                clear hq9 hb9 him hmo ml3 hMM hal hbx HM9 HL8 HT8 HCF8 HV8 HU8 HS8 HI8 HR8 HJ8 HO8 HQ8 HP8 hml3
                go_wp2_with (first
                  | (refine wpList_declare rfl rfl 84 rfl (.tmp 35) (.tmp 262) rfl _ zeroMkt3 mx.cells.toArray rfl (by rw [infoMkt3];rfl) rfl rfl (by simpa using HON4.out) ?_
                     generalize w9.alloc (.cells mx.cells.toArray 84)=w10 at HBXb35 HL10 HT10 HCF10 HV10 HU10 HS10 HI10 HR10 HJ10 HO10 HQ10 HP10 HN10 HM10 hw10 ⊢
                     obtain ⟨b35,hb35⟩:∃ b35,b35=w9.heap.size:=⟨_,rfl⟩
                     rw [← hb35] at HBXb35 ⊢
                     clear hb35)
                  | fail)
                refine (rmarket_any ts w.heap.size rd rl rc ys cs R w10 (HST0.out.after HL10.out).rs (by omega) (by omega)).mono ?_;rintro e w11 ⟨px,rfl,hb11,hip⟩
                have hmm2:(if ordE cs.s.length R=0 then mktC cs R else ⟨[],[],[]⟩)=MM:=by rw [HMM.out,HSAME.out.oE,HSAME.out.mkt];rfl
                rw [hmm2] at hip
                rw [HSAME.out.oE,← HOE.out]
                have hal:Below w11.heap.size w11 (w11.alloc (.cells px.cells.toArray 84)):=(Below.refl _ _).alloc (Nat.le_refl _) _
                have hbx:=hb11.trans (hal.mono hb11.size)
                have HBXb37:Hid (BxMk (w11.alloc (.cells px.cells.toArray 84)) w11.heap.size px):=Lib.hid (heap_new w11 _)
                have HL12:=Lib.hid (HL10.out.trans (hbx.mono HL10.out.size))
                have HT12:=Lib.hid (HT10.out.below hbx)
                have HCF12:=Lib.hid (HCF10.out.below hbx)
                have HI27:=Lib.hid (HI10.out.below hbx)
                have HR12:=Lib.hid (HR10.out.below hbx)
                have HI29:=Lib.hid (HJ10.out.below hbx)
                have HI31:=Lib.hid (HO10.out.below hbx)
                have HQ12:=Lib.hid (HQ10.out.below hbx)
                have HI33:=Lib.hid (HP10.out.below hbx)
                have HI35:=Lib.hid (HN10.out.below hbx)
                have HM12:=Lib.hid (HM10.out.below hbx)
                have HI37:=Lib.hid (hip.below hal)
                have HON5:=Lib.hid px.one
                have H5':=Lib.hid (And.intro (HV10.out.below hbx) (And.intro (HU10.out.below hbx) (And.intro (HS10.out.below hbx) (HBXb35.out.below hbx))))
                have hw12:w10.heap.size≤(w11.alloc (.cells px.cells.toArray 84)).heap.size:=hbx.size
                clear hb11 hip hal hbx hmm2 HL10 HT10 HCF10 HV10 HU10 HS10 HI10 HR10 HJ10 HO10 HQ10 HP10 HN10 HM10 HBXb35 HON4
                go_upto_region 58 with (first
                  | (refine wpList_declare rfl rfl 84 rfl (.tmp 37) (.tmp 267) rfl _ zeroMkt3 px.cells.toArray rfl (by rw [infoMkt3];rfl) rfl rfl (by simpa using HON5.out) ?_
                     generalize w11.alloc (.cells px.cells.toArray 84)=w12 at HBXb37 HL12 HT12 HCF12 HI27 HR12 HI29 HI31 HQ12 HI33 HI35 HM12 HI37 H5' hw12 ⊢
                     obtain ⟨b37,hb37⟩:∃ b37,b37=w11.heap.size:=⟨_,rfl⟩
                     rw [← hb37] at HBXb37 ⊢
                     clear hb37)
                  | fail)
                clear HON5
                have H512:Hid (Bx5 w12 b25 y1 cs b27 b29 rq rt ra rb.length qa qm qc b35 mx b37 px):=Lib.hid ⟨H5'.out.1,H5'.out.2.1,H5'.out.2.2.1,H5'.out.2.2.2,HBXb37.out⟩
                clear H5' HBXb37
                go_cut [317] (fun v wx=>v=.bool false∧Below w12.heap.size w12 wx)
                case first =>
                  have hmay:=HMAY.out
                  obtain ⟨ph,hph⟩:∃ ph,ph=(phD cs.s.length D).1:=⟨_,rfl⟩
                  have HPH:=Lib.hid hph
                  have HST12:=Lib.hid (HST0.out.after HL12.out)
                  have HV0:=Lib.hid ((Below.refl w12.heap.size w12).drew)
                  have z1:(re == re)=true:=by simp
                  have z2:(re != re)=false:=by simp
                  have z3:(oe == oe)=true:=by simp
                  have z4:(oe != oe)=false:=by simp
                  have z5:(((ph:Nat):Int) == ((ph:Nat):Int))=true:=by simp
                  have z6:(((ph:Nat):Int) != ((ph:Nat):Int))=false:=by simp
                  clear hph HK0 HX0 HT12 HR12 HQ12 HM12 HOL HOE HRE HMM
                  refine wp_region_held_drew (S:=(fun w':World=>Bx5 w' b25 y1 cs b27 b29 rq rt ra rb.length qa qm qc b35 mx b37 px)) (by kernel_rfl) (H512.out.below HV0.out) (fun hS0 => ?_)
                  refine tk 0 (.int .i64 0) rfl (fun w' hSw => ?_) hS0 ?_
                  · go_simp
                  refine tk 1 (.bool false) rfl (fun w' hSw => ?_) hS0 ?_
                  · go_simp
                  refine tk 2 (.bool false) rfl (fun w' hSw => ?_) hS0 ?_
                  · go_simp
                  try simp only [List.getElem_toArray,List.getElem_cons_zero,List.getElem_cons_succ,Act.put,List.setIfInBounds_toArray,List.set_cons_zero,List.set_cons_succ]
                  refine tk 3 (.agg (y1.cells cs.t).toArray) rfl (fun w' hSw => ?_) hS0 ?_
                  · obtain ⟨c0,c1,c2,c3,c4⟩:=(Bx5.c hSw).cells
                    obtain ⟨r0,r1,r2⟩:=(Bx5.r hSw).cells
                    obtain ⟨q0,q1,q2⟩:=(Bx5.q hSw).cells
                    obtain ⟨k0,k1,k2⟩:=(Bx5.m hSw).cells
                    obtain ⟨p0,p1,p2⟩:=(Bx5.p hSw).cells
                    go_simp
                    try rfl
                  refine tk 4 (.pointer (some ⟨ts,0,none⟩)) rfl (fun w' hSw => ?_) hS0 ?_
                  · go_simp
                  try simp only [List.getElem_toArray,List.getElem_cons_zero,List.getElem_cons_succ,Act.put,List.setIfInBounds_toArray,List.set_cons_zero,List.set_cons_succ]
                  refine wpAnyH_ready (rs:=[5]) (by kernel_rfl) (by simp) ?_
                  refine AllReadyH.cons rfl (fun K hK => ?_) AllReadyH.nil
                  go_simp
                  refine (rconfig_any ts w.heap.size rd rl rc ys cs R w12.drew (HST12.out.after HV0.out).rs hmay).mono ?_;rintro e u1 ⟨y2,rfl,hb1,hcf2⟩
                  have HV1:=Lib.hid (HV0.out.trans (hb1.mono HV0.out.size))
                  have HY2:=Lib.hid hcf2
                  clear hb1 hcf2
                  refine hK.out _ _ (H512.out.below HV1.out) (fun hS1 => ?_)
                  clear hK K
                  try simp only [List.getElem_toArray,List.getElem_cons_zero,List.getElem_cons_succ,Act.put,List.setIfInBounds_toArray,List.set_cons_zero,List.set_cons_succ]
                  refine wpAnyH_ready (rs:=[6]) (by kernel_rfl) (by simp) ?_
                  refine AllReadyH.cons rfl (fun K hK => ?_) AllReadyH.nil
                  go_simp
                  refine (sameC_any _ _ y1 y2 cs u1 (HCF12.out.below HV1.out) HY2.out).mono ?_;rintro e u2 ⟨rfl,hb2⟩
                  have HV2:=Lib.hid (HV1.out.trans (hb2.mono HV1.out.size))
                  clear hb2 HY2
                  refine hK.out _ _ (H512.out.below HV2.out) (fun hS2 => ?_)
                  clear hK K
                  try simp only [List.getElem_toArray,List.getElem_cons_zero,List.getElem_cons_succ,Act.put,List.setIfInBounds_toArray,List.set_cons_zero,List.set_cons_succ]
                  refine tk 7 (.bool false) rfl (fun w' hSw => ?_) hS2 ?_
                  · go_simp
                  refine tk 8 (.bool false) rfl (fun w' hSw => ?_) hS2 ?_
                  · go_simp
                  refine tk 9 (.bool false) rfl (fun w' hSw => ?_) hS2 ?_
                  · go_simp
                  try simp only [List.getElem_toArray,List.getElem_cons_zero,List.getElem_cons_succ,Act.put,List.setIfInBounds_toArray,List.set_cons_zero,List.set_cons_succ]
                  refine tk 10 (.pointer (some ⟨bs,0,none⟩)) rfl (fun w' hSw => ?_) hS2 ?_
                  · go_simp
                  refine tk 12 (.pointer (some ⟨ts,0,none⟩)) rfl (fun w' hSw => ?_) hS2 ?_
                  · go_simp
                  try simp only [List.getElem_toArray,List.getElem_cons_zero,List.getElem_cons_succ,Act.put,List.setIfInBounds_toArray,List.set_cons_zero,List.set_cons_succ]
                  refine wpAnyH_ready (rs:=[11]) (by kernel_rfl) (by simp) ?_
                  refine AllReadyH.cons rfl (fun K hK => ?_) AllReadyH.nil
                  go_simp
                  refine (phase_pub bs bd bl xs cs D u2 (HST12.out.after HV2.out).ps).mono ?_;rintro e u3 ⟨rfl,hb3⟩
                  rw [← HPH.out]
                  have HV3:=Lib.hid (HV2.out.trans (hb3.mono HV2.out.size))
                  clear hb3
                  refine hK.out _ _ (H512.out.below HV3.out) (fun hS3 => ?_)
                  clear hK K
                  try simp only [List.getElem_toArray,List.getElem_cons_zero,List.getElem_cons_succ,Act.put,List.setIfInBounds_toArray,List.set_cons_zero,List.set_cons_succ]
                  refine wpAnyH_ready (rs:=[13]) (by kernel_rfl) (by simp) ?_
                  refine AllReadyH.cons rfl (fun K hK => ?_) AllReadyH.nil
                  go_simp
                  refine (rphase_pub ts w.heap.size rd rl rc ys cs R u3 (HST12.out.after HV3.out).rs (by omega)).mono ?_;rintro e u4 ⟨rfl,hb4⟩
                  rw [HSAME.out.ph,← HPH.out]
                  have HV4:=Lib.hid (HV3.out.trans (hb4.mono HV3.out.size))
                  clear hb4
                  refine hK.out _ _ (H512.out.below HV4.out) (fun hS4 => ?_)
                  clear hK K
                  try simp only [List.getElem_toArray,List.getElem_cons_zero,List.getElem_cons_succ,Act.put,List.setIfInBounds_toArray,List.set_cons_zero,List.set_cons_succ]
                  refine tk 14 (.bool false) rfl (fun w' hSw => ?_) hS4 ?_
                  · go_simp
                  refine tk 15 (.bool false) rfl (fun w' hSw => ?_) hS4 ?_
                  · go_simp
                  refine tk 16 (.bool false) rfl (fun w' hSw => ?_) hS4 ?_
                  · go_simp
                  try simp only [List.getElem_toArray,List.getElem_cons_zero,List.getElem_cons_succ,Act.put,List.setIfInBounds_toArray,List.set_cons_zero,List.set_cons_succ]
                  refine tk 17 (.int .i64 re) rfl (fun w' hSw => ?_) hS4 ?_
                  · go_simp
                  refine tk 18 (.int .i64 re) rfl (fun w' hSw => ?_) hS4 ?_
                  · go_simp
                  refine tk 19 (.bool false) rfl (fun w' hSw => ?_) hS4 ?_
                  · go_simp
                  try simp only [List.getElem_toArray,List.getElem_cons_zero,List.getElem_cons_succ,Act.put,List.setIfInBounds_toArray,List.set_cons_zero,List.set_cons_succ]
                  refine tk 20 (.bool false) rfl (fun w' hSw => ?_) hS4 ?_
                  · go_simp
                  refine tk 21 (.bool false) rfl (fun w' hSw => ?_) hS4 ?_
                  · go_simp
                  refine tk 22 (.agg #[.int .u32 rq,.bool rt,.slice ra rb.length rb.length]) rfl (fun w' hSw => ?_) hS4 ?_
                  · obtain ⟨c0,c1,c2,c3,c4⟩:=(Bx5.c hSw).cells
                    obtain ⟨r0,r1,r2⟩:=(Bx5.r hSw).cells
                    obtain ⟨q0,q1,q2⟩:=(Bx5.q hSw).cells
                    obtain ⟨k0,k1,k2⟩:=(Bx5.m hSw).cells
                    obtain ⟨p0,p1,p2⟩:=(Bx5.p hSw).cells
                    go_simp
                    try rfl
                  try simp only [List.getElem_toArray,List.getElem_cons_zero,List.getElem_cons_succ,Act.put,List.setIfInBounds_toArray,List.set_cons_zero,List.set_cons_succ]
                  refine tk 23 (.agg #[.int .u32 rq,.bool rt,.slice qa qm qc]) rfl (fun w' hSw => ?_) hS4 ?_
                  · obtain ⟨c0,c1,c2,c3,c4⟩:=(Bx5.c hSw).cells
                    obtain ⟨r0,r1,r2⟩:=(Bx5.r hSw).cells
                    obtain ⟨q0,q1,q2⟩:=(Bx5.q hSw).cells
                    obtain ⟨k0,k1,k2⟩:=(Bx5.m hSw).cells
                    obtain ⟨p0,p1,p2⟩:=(Bx5.p hSw).cells
                    go_simp
                    try rfl
                  try simp only [List.getElem_toArray,List.getElem_cons_zero,List.getElem_cons_succ,Act.put,List.setIfInBounds_toArray,List.set_cons_zero,List.set_cons_succ]
                  refine wpAnyH_ready (rs:=[24]) (by kernel_rfl) (by simp) ?_
                  refine AllReadyH.cons rfl (fun K hK => ?_) AllReadyH.nil
                  go_simp
                  refine (sameR_any rq rq rt rt ra qa rb.length qm rb.length qc rb rb u4 (HI27.out.below HV4.out) (HI29.out.below HV4.out)).mono ?_;rintro e u5 ⟨rfl,hb5⟩
                  rw [decide_eq_true rfl]
                  have HV5:=Lib.hid (HV4.out.trans (hb5.mono HV4.out.size))
                  clear hb5
                  refine hK.out _ _ (H512.out.below HV5.out) (fun hS5 => ?_)
                  clear hK K
                  try simp only [List.getElem_toArray,List.getElem_cons_zero,List.getElem_cons_succ,Act.put,List.setIfInBounds_toArray,List.set_cons_zero,List.set_cons_succ]
                  refine tk 25 (.bool false) rfl (fun w' hSw => ?_) hS5 ?_
                  · go_simp
                  refine tk 26 (.bool false) rfl (fun w' hSw => ?_) hS5 ?_
                  · go_simp
                  refine tk 27 (.bool false) rfl (fun w' hSw => ?_) hS5 ?_
                  · go_simp
                  try simp only [List.getElem_toArray,List.getElem_cons_zero,List.getElem_cons_succ,Act.put,List.setIfInBounds_toArray,List.set_cons_zero,List.set_cons_succ]
                  refine tk 28 (.int .i64 oe) rfl (fun w' hSw => ?_) hS5 ?_
                  · go_simp
                  refine tk 29 (.int .i64 oe) rfl (fun w' hSw => ?_) hS5 ?_
                  · go_simp
                  refine tk 30 (.bool false) rfl (fun w' hSw => ?_) hS5 ?_
                  · go_simp
                  try simp only [List.getElem_toArray,List.getElem_cons_zero,List.getElem_cons_succ,Act.put,List.setIfInBounds_toArray,List.set_cons_zero,List.set_cons_succ]
                  refine tk 31 (.bool false) rfl (fun w' hSw => ?_) hS5 ?_
                  · go_simp
                  refine tk 32 (.bool false) rfl (fun w' hSw => ?_) hS5 ?_
                  · go_simp
                  refine tk 33 (.slice oa ol.length ol.length) rfl (fun w' hSw => ?_) hS5 ?_
                  · go_simp
                  try simp only [List.getElem_toArray,List.getElem_cons_zero,List.getElem_cons_succ,Act.put,List.setIfInBounds_toArray,List.set_cons_zero,List.set_cons_succ]
                  refine tk 34 (.slice pa pm pc) rfl (fun w' hSw => ?_) hS5 ?_
                  · go_simp
                  try simp only [List.getElem_toArray,List.getElem_cons_zero,List.getElem_cons_succ,Act.put,List.setIfInBounds_toArray,List.set_cons_zero,List.set_cons_succ]
                  refine wpAnyH_ready (rs:=[35]) (by kernel_rfl) (by simp) ?_
                  refine AllReadyH.cons rfl (fun K hK => ?_) AllReadyH.nil
                  go_simp
                  refine (sameI_any oa pa ol.length pm ol.length pc ol ol u5 (HI31.out.below HV5.out) (HI33.out.below HV5.out)).mono ?_;rintro e u6 ⟨rfl,hb6⟩
                  rw [decide_eq_true rfl]
                  have HV6:=Lib.hid (HV5.out.trans (hb6.mono HV5.out.size))
                  clear hb6
                  refine hK.out _ _ (H512.out.below HV6.out) (fun hS6 => ?_)
                  clear hK K
                  try simp only [List.getElem_toArray,List.getElem_cons_zero,List.getElem_cons_succ,Act.put,List.setIfInBounds_toArray,List.set_cons_zero,List.set_cons_succ]
                  refine tk 36 (.bool false) rfl (fun w' hSw => ?_) hS6 ?_
                  · go_simp
                  refine tk 37 (.bool false) rfl (fun w' hSw => ?_) hS6 ?_
                  · go_simp
                  refine tk 38 (.bool false) rfl (fun w' hSw => ?_) hS6 ?_
                  · go_simp
                  try simp only [List.getElem_toArray,List.getElem_cons_zero,List.getElem_cons_succ,Act.put,List.setIfInBounds_toArray,List.set_cons_zero,List.set_cons_succ]
                  refine tk 39 (.int .i64 oe) rfl (fun w' hSw => ?_) hS6 ?_
                  · go_simp
                  refine tk 40 (.int .i64 oe) rfl (fun w' hSw => ?_) hS6 ?_
                  · go_simp
                  refine tk 41 (.bool false) rfl (fun w' hSw => ?_) hS6 ?_
                  · go_simp
                  try simp only [List.getElem_toArray,List.getElem_cons_zero,List.getElem_cons_succ,Act.put,List.setIfInBounds_toArray,List.set_cons_zero,List.set_cons_succ]
                  refine tk 42 (.bool false) rfl (fun w' hSw => ?_) hS6 ?_
                  · go_simp
                  refine tk 43 (.bool false) rfl (fun w' hSw => ?_) hS6 ?_
                  · go_simp
                  refine tk 44 (.agg mx.cells.toArray) rfl (fun w' hSw => ?_) hS6 ?_
                  · obtain ⟨c0,c1,c2,c3,c4⟩:=(Bx5.c hSw).cells
                    obtain ⟨r0,r1,r2⟩:=(Bx5.r hSw).cells
                    obtain ⟨q0,q1,q2⟩:=(Bx5.q hSw).cells
                    obtain ⟨k0,k1,k2⟩:=(Bx5.m hSw).cells
                    obtain ⟨p0,p1,p2⟩:=(Bx5.p hSw).cells
                    go_simp
                    try rfl
                  try simp only [List.getElem_toArray,List.getElem_cons_zero,List.getElem_cons_succ,Act.put,List.setIfInBounds_toArray,List.set_cons_zero,List.set_cons_succ]
                  refine tk 45 (.agg px.cells.toArray) rfl (fun w' hSw => ?_) hS6 ?_
                  · obtain ⟨c0,c1,c2,c3,c4⟩:=(Bx5.c hSw).cells
                    obtain ⟨r0,r1,r2⟩:=(Bx5.r hSw).cells
                    obtain ⟨q0,q1,q2⟩:=(Bx5.q hSw).cells
                    obtain ⟨k0,k1,k2⟩:=(Bx5.m hSw).cells
                    obtain ⟨p0,p1,p2⟩:=(Bx5.p hSw).cells
                    go_simp
                    try rfl
                  try simp only [List.getElem_toArray,List.getElem_cons_zero,List.getElem_cons_succ,Act.put,List.setIfInBounds_toArray,List.set_cons_zero,List.set_cons_succ]
                  refine wpAnyH_ready (rs:=[46]) (by kernel_rfl) (by simp) ?_
                  refine AllReadyH.cons rfl (fun K hK => ?_) AllReadyH.nil
                  go_simp
                  refine (sameM_any _ _ mx px MM MM u6 (HI35.out.below HV6.out) (HI37.out.below HV6.out)).mono ?_;rintro e u7 ⟨rfl,hb7⟩
                  rw [decide_eq_true rfl]
                  have HV7:=Lib.hid (HV6.out.trans (hb7.mono HV6.out.size))
                  clear hb7
                  refine hK.out _ _ (H512.out.below HV7.out) (fun hS7 => ?_)
                  clear hK K
                  try simp only [List.getElem_toArray,List.getElem_cons_zero,List.getElem_cons_succ,Act.put,List.setIfInBounds_toArray,List.set_cons_zero,List.set_cons_succ]
                  refine tk 47 (.bool false) rfl (fun w' hSw => ?_) hS7 ?_
                  · go_simp
                  refine tk 48 (.bool false) rfl (fun w' hSw => ?_) hS7 ?_
                  · go_simp
                  refine wpAnyH_done (by kernel_rfl) ?_ _
                  try simp only [List.getElem_toArray,List.getElem_cons_zero,List.getElem_cons_succ,Act.put,List.setIfInBounds_toArray,List.set_cons_zero,List.set_cons_succ]
                  try go_wp2_with fail
                  go_meet
                  exact ⟨rfl,HV7.out⟩
                case rest =>
                  obtain ⟨rfl,hb13⟩:=hcut
                  obtain ⟨w13,rfl⟩:∃ w13:World,w13=wc:=⟨_,rfl⟩
                  have HL13:=Lib.hid (HL12.out.trans (hb13.mono HL12.out.size))
                  have HS13:=Lib.hid (HS0.out.after HL13.out)
                  have HK13:=Lib.hid (HK0.out.below HL13.out)
                  have HX13:=Lib.hid (H512.out.below hb13)
                  have HT13:=Lib.hid (HT12.out.below hb13)
                  have HR13:=Lib.hid (HR12.out.below hb13)
                  have HQ13:=Lib.hid (HQ12.out.below hb13)
                  have HM13:=Lib.hid (HM12.out.below hb13)
                  clear hb13 HL12 HK0 H512 HT12 HR12 HQ12 HM12 HCF12 HI27 HI29 HI31 HI33 HI35 HI37 HX0 HS0 HST0 HRE HOL HOE HMM HSAME
                  go_wp2_with (first
                    | (refine wpList_load_mid rfl 27 (.tmp 25) rfl b25 0 rfl (y1.cells cs.t) _ HX13.out.c.row Tryz.underlying27 rfl infoCfg5 ?_)
                    | fail)
                  refine (tell_cfg w13 w.heap.size bk w0.heap.size w1.heap.size rd rl (1004+30*j) y1 cs HK13.out HT13.out ⟨by omega,by omega⟩ hw1 hs8 (by omega)).mono ?_;rintro e w14 ⟨rfl,ht14,hk14⟩
                  have HS14:=Lib.hid (HS13.out.kept ht14 hk14)
                  have HK14:Hid (BkP w14 w.heap.size bk (QL w2.heap.size rd rl) (1004+30*j+12)):=Lib.hid (hk14.mono (fun k hk=>hk.up hw2) (Nat.le_refl _))
                  have HU14:=Lib.hid (HX13.out.r.touch ht14 (bkS_not HX13.out.r (by decide) (fun κ=>by cases κ <;> decide)))
                  have HN14:=Lib.hid (HX13.out.m.touch ht14 (bkS_not HX13.out.m (by decide) (fun κ=>by cases κ <;> decide)))
                  have HR14:=Lib.hid (HR13.out.keep ht14)
                  have HQ14:=Lib.hid (HQ13.out.keep ht14)
                  have HM14:=Lib.hid (HM13.out.keep ht14)
                  clear ht14 hk14 HS13 HK13 HX13 HT13 HR13 HQ13 HM13 HL13
                  go_wp2_with (first
                    | (refine wpList_load_mid rfl 60 (.tmp 27) rfl b27 0 rfl [.int .u32 rq,.bool rt,.slice ra rb.length rb.length] _ HU14.out.row Tryz.underlying60 rfl infoRec3 ?_)
                    | fail)
                  refine (tell_rec w14 w.heap.size bk w2.heap.size w3.heap.size rd rl (1004+30*j+12) ra rb.length (.int .u32 rq) (.bool rt) rfl rfl HK14.out HR14.out ⟨by omega,by omega⟩ hw3 (by omega)).mono ?_;rintro e w15 ⟨rfl,ht15,hk15⟩
                  have HS15:=Lib.hid (HS14.out.kept ht15 hk15)
                  have HK15:Hid (BkP w15 w.heap.size bk (QL w6.heap.size rd rl) (1004+30*j+12+1)):=Lib.hid (hk15.mono (fun k hk=>hk.up (by omega)) (Nat.le_refl _))
                  have HN15:=Lib.hid (HN14.out.touch ht15 (bkS_not HN14.out (by decide) (fun κ=>by cases κ <;> decide)))
                  have HQ15:=Lib.hid (HQ14.out.keep ht15)
                  have HM15:=Lib.hid (HM14.out.keep ht15)
                  clear ht15 hk15 HS14 HK14 HU14 HN14 HR14 HQ14 HM14
                  go_wp2_with fail
                  refine (tell_ints w15 w.heap.size bk w6.heap.size w7.heap.size rd rl (1004+30*j+12+1) oa ol.length HK15.out HQ15.out ⟨by omega,by omega⟩ hw7 (by omega)).mono ?_;rintro e w16 ⟨rfl,ht16,hk16⟩
                  have HS16:=Lib.hid (HS15.out.kept ht16 hk16)
                  have HK16:Hid (BkP w16 w.heap.size bk (QL w8.heap.size rd rl) (1004+30*j+12+1+1)):=Lib.hid (hk16.mono (fun k hk=>hk.up hw8) (Nat.le_refl _))
                  have HN16:=Lib.hid (HN15.out.touch ht16 (bkS_not HN15.out (by decide) (fun κ=>by cases κ <;> decide)))
                  have HM16:=Lib.hid (HM15.out.keep ht16)
                  clear ht16 hk16 HS15 HK15 HN15 HQ15 HM15
                  go_wp2_with (first
                    | (refine wpList_load_mid rfl 84 (.tmp 35) rfl b35 0 rfl mx.cells _ HN16.out.row Tryz.underlying84 rfl infoMkt3 ?_)
                    | fail)
                  refine (tell_mkt w16 w.heap.size bk w8.heap.size w9.heap.size rd rl (1004+30*j+12+1+1) mx MM HK16.out HM16.out ⟨by omega,by omega⟩ hw9 (by omega)).mono ?_;rintro e w17 ⟨rfl,ht17,hk17⟩
                  have HS17:=Lib.hid (HS16.out.kept ht17 hk17)
                  clear ht17 hk17 HS16 HK16 HN16 HM16
                  go_wp2_with fail
                  go_roundw
                  case rel=>exact ⟨j+1,bd,bl,rd,rl,rc,D,R,_,_,hj1,rfl,rfl,rfl,rfl,by go_num,Lib.hid ⟨HS17.out.more (by omega),HF0.out.mono (by omega)⟩⟩
                  case measure=>simp [intOf];omega
        · as_aux_lemma =>
            have hke:j=M:=by omega
            subst hke
            have hkk:¬ j<L.length:=by have:=HM.out;omega
            clear hlt
            go_wp2_with fail
            refine (apart_p _ w.heap.size bk _ _ HS.out.1.q.book).mono ?_;rintro e w9 ⟨rfl,hb9⟩
            have HB9:=Lib.hid (HS.out.1.q.below.trans hb9)
            clear hb9
            go_wp2_with fail
            refine (lives_any _).mono ?_;rintro e wa ⟨rfl,hba⟩
            have HBE:=Lib.hid (HB9.out.trans (hba.mono HB9.out.size))
            clear hba
            go_wp2
            go_ret
            exact ⟨rfl,HBE.out⟩
end Go.Proofs.YtgbikngicidbkaaGreatDoor
