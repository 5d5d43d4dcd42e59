/- The statement StoresPlay: what it returns;conditions: those typed. -/
import Derived.Test.YtgbikngicidbkaaGreatDoorQStPlayB
import Derived.Test.YtgbikngicidbkaaGreatDoorQStPlayUStPlayV
import Derived.Test.YtgbikngicidbkaaGreatDoorQR20mStPlayTR20nR20oStPlayArgs
import Derived.Deep.CutBlock
import Derived.Deep.DeepCutAuto
namespace Go.Proofs.YtgbikngicidbkaaGreatDoor
open Go.RowKit
set_option linter.unusedVariables false
set_option linter.unusedSimpArgs false
set_option maxRecDepth 100000
set_option maxHeartbeats 64000000 in
theorem storesPlay_any (sec:Nat) (hsec:sec<256) (x:StA) (c:StC) (la:Option Addr) (ln lc:Nat) (L:List AcV) (w:World) (hc:IsCf w (fun k=>k<w.heap.size) x c) (hL:IsRows AcV.cells 10 w la ln lc L) (hA:∀ y ∈ L,AcOk w y) (hm:L.length≤1048576) (hcm:CfgSm c.d 1048576) (hs:∀ y ∈ L,AcSm y) :
   Calls Tryz.prog 3 #[.int .u8 sec,.agg (x.cells c.t).toArray,.slice la ln lc] w fun e w' => e=.returned (.bool true)∧Below w.heap.size w w':=by
 have HL:=Lib.hid hL
 have HA:=Lib.hid hA
 have HSM:=Lib.hid hs
 have HCD:=Lib.hid hcm
 have HCM:Hid (CfSm c):=Lib.hid ⟨hcm.r,hcm.s,hcm.a,hcm.u,hcm.e⟩
 have HC:=Lib.hid hc
 obtain rfl:=hL.1
 have hct:=hc.t
 have hb0:Below w.heap.size w (w.alloc (.cells #[.slice x.ra x.rn x.rc,.slice x.sa x.sn x.sc,.slice x.aa x.an x.ac,.slice x.ua x.un x.uc,.int .u64 (c.t:Int)] 27)):=(Below.refl _ _).alloc (Nat.le_refl _) _
 have HB0:=Lib.hid hb0
 have HX0:Hid (BxCf (w.alloc (.cells #[.slice x.ra x.rn x.rc,.slice x.sa x.sn x.sc,.slice x.aa x.an x.ac,.slice x.ua x.un x.uc,.int .u64 (c.t:Int)] 27)) w.heap.size x c):=Lib.hid (heap_new w _)
 have HC0:=Lib.hid (hc.below hb0)
 have HL0:=Lib.hid (hL.below hb0)
 clear hc hL hA hs hb0 hcm
 rw [show (x.cells c.t).toArray = #[.slice x.ra x.rn x.rc,.slice x.sa x.sn x.sc,.slice x.aa x.an x.ac,.slice x.ua x.un x.uc,.int .u64 (c.t:Int)] from rfl]
 go_enter Tryz.func3,Tryz.ntmps3
 go_wp2_with (first
   | (refine wpList_load_mid rfl 27 (.tmp 4) rfl w.heap.size 0 rfl (x.cells c.t) _ HX0.out.row Tryz.underlying27 rfl infoCfg5 ?_)
   | fail)
 generalize w.alloc (.cells #[.slice x.ra x.rn x.rc,.slice x.sa x.sn x.sc,.slice x.aa x.an x.ac,.slice x.ua x.un x.uc,.int .u64 (c.t:Int)] 27)=w0 at HB0 HX0 HC0 HL0 ⊢
 obtain ⟨bc,hbc⟩:∃ bc,bc=w.heap.size:=⟨_,rfl⟩
 have hbcw:w.heap.size≤bc:=by omega
 rw [← hbc] at HX0 ⊢
 clear hbc
 refine (great_is _ x c la L.length lc L w0 HC0.out HL0.out hm HCM.out HSM.out).mono ?_;rintro e w1 ⟨rfl,hb1⟩
 have HB1:=Lib.hid (HB0.out.trans (hb1.mono HB0.out.size))
 have HX1:=Lib.hid (HX0.out.below hb1)
 have HC1:=Lib.hid (HC0.out.below hb1)
 clear hb1 HB0 HX0 HC0 HL0 hm
 by_cases hbig:250<grtN c L
 · rw [decide_eq_true hbig]
   go_wp2_with fail
   refine (lives_any _).mono ?_;rintro e w2 ⟨rfl,hb2⟩
   have HBE:=Lib.hid (HB1.out.trans (hb2.mono HB1.out.size))
   clear hb2
   go_wp2
   go_ret
   exact ⟨rfl,HBE.out⟩
 rw [decide_eq_false hbig]
 as_aux_lemma =>
  have hg:grtN c L≤250:=by omega
  have hlb:L.length≤62:=by have:=asum_len L;unfold grtN at hg;omega
  have hcs:c.s.length≤250:=by unfold grtN at hg;omega
  have HLEN:Hid (∀ y ∈ L,y.r.n≤250∧y.on≤250∧y.bn≤10039):=Lib.hid (fun y hy=>by have:=asum_mem L y hy;unfold grtN at hg;omega)
  clear hbig hg
  obtain ⟨z,hz⟩:∃ z:Nat,z=1+sec:=⟨_,rfl⟩
  have HZ:Hid ((1:Int)+(sec:Int)=(z:Int)):=Lib.hid (by omega)
  have hz1:1≤z:=by omega
  have hz2:z≤256:=by omega
  clear hz
  go_wp2_with fail
  rw [HZ.out]
  refine (new_good z w1 hz1 (by omega)).mono ?_;rintro e w2 ⟨bd,bl,rfl,hb2,g1,g2,hd2⟩
  go_wp2_with fail
  rw [HZ.out]
  refine (rnew_good z w2 hz1 (by omega)).mono ?_;rintro e w3 ⟨rd,rl,rc,rfl,hb3,hr3⟩
  obtain ⟨D0,hD0⟩:∃ D0,D0=(⟨List.replicate z zsec,-1,false,0⟩:Dsk):=⟨_,rfl⟩
  rw [← hD0] at hd2 hr3
  have HF0:Hid (D0.fine 0):=Lib.hid (by rw [hD0];exact newD_fine' z)
  have HSA0:Hid (Same D0 D0):=Lib.hid ⟨rfl,rfl,rfl,.inl rfl⟩
  have HB3:=Lib.hid ((HB1.out.trans (hb2.mono HB1.out.size)).trans (hb3.mono (Nat.le_trans HB1.out.size hb2.size)))
  have hw1:=HB1.out.size
  have hw2:=hb2.size
  have hw3:=hb3.size
  have HX3:=Lib.hid ((HX1.out.below hb2).below hb3)
  have HC3:=Lib.hid ((HC1.out.below hb2).below hb3)
  have HD3:=Lib.hid (hd2.touch (Touch.of_below (S:=fun _=>False) hb3) id id)
  have hdl:=HD3.out.lt
  have hrl:=hr3.lt
  have hrle:=hr3.le
  have HR3:Hid (IsRef w3 w.heap.size rd rl rc D0):=Lib.hid (hr3.lowr (by omega))
  have hdge:w.heap.size≤bd∧w.heap.size≤bl:=⟨by omega,by omega⟩
  clear hb2 hb3 hd2 hr3 hD0 HB1 HX1 HC1
  go_wp2_with (first
    | (refine wpList_load_mid rfl 27 (.tmp 4) rfl bc 0 rfl (x.cells c.t) _ HX3.out.row Tryz.underlying27 rfl infoCfg5 ?_)
    | fail)
  as_aux_lemma =>
   refine (twin_st x c _ w3 HC3.out HCD.out).mono ?_;rintro e w4 ⟨y,rfl,hb4,ht4⟩
   have hal:Below w4.heap.size w4 (w4.alloc (.cells ((y.stA c).cells c.t).toArray 27)):=(Below.refl _ _).alloc (Nat.le_refl _) _
   have hb5:Below w3.heap.size w3 (w4.alloc (.cells ((y.stA c).cells c.t).toArray 27)):=hb4.trans (hal.mono hb4.size)
   have HV5:Hid (BxCf (w4.alloc (.cells ((y.stA c).cells c.t).toArray 27)) w4.heap.size (y.stA c) c):=Lib.hid (heap_new w4 _)
   have HB5:=Lib.hid (HB3.out.trans (hb5.mono HB3.out.size))
   have HX5:=Lib.hid (HX3.out.below hb5)
   have HC5:=Lib.hid (HC3.out.below hb5)
   have HD5:=Lib.hid (HD3.out.touch (Touch.of_below (S:=fun _=>False) hb5) id id)
   have HR5:=Lib.hid (HR3.out.below hb5)
   have HTW5:=Lib.hid (ht4.below hal)
   have HON:=Lib.hid (StA.one (y.stA c) c.t)
   have hw4:=hb4.size
   clear ht4 hal hb4 hb5 HB3 HX3 HC3 HD3 HR3
   go_wp2_with (first
     | (refine wpList_declare rfl rfl 27 rfl (.tmp 11) (.tmp 64) rfl _ zeroCfg5 ((y.stA c).cells c.t).toArray rfl (by rw [infoCfg5];rfl) rfl rfl (by simpa using HON.out) ?_)
     | (refine wpList_load_mid rfl 27 (.tmp 11) rfl w4.heap.size 0 rfl ((y.stA c).cells c.t) _ HV5.out.row Tryz.underlying27 rfl infoCfg5 ?_)
     | fail)
   have hw5:w4.heap.size<(w4.alloc (.cells ((y.stA c).cells c.t).toArray 27)).heap.size:=lt_of_heap HV5.out
   generalize w4.alloc (.cells ((y.stA c).cells c.t).toArray 27)=w5 at HV5 HB5 HX5 HC5 HD5 HR5 HTW5 hw5 ⊢
   obtain ⟨b11,hb11⟩:∃ b11,b11=w4.heap.size:=⟨_,rfl⟩
   rw [← hb11] at HV5 ⊢
   as_aux_lemma =>
    refine (make_all _ bd bl D0 (y.stA c) c 0 w5 HD5.out (HTW5.out.isCf HCM.out hct) (fun k hk e=>by omega) HF0.out (by decide)).mono ?_
    rintro e w6 ⟨s,rfl,ht6,hd6,hm6⟩
    obtain ⟨E,hE⟩:∃ E,E=(makeD c D0).1:=⟨_,rfl⟩
    obtain ⟨D1,hD1⟩:∃ D1,D1=(makeD c D0).2:=⟨_,rfl⟩
    have HF1:Hid (D1.fine 10):=Lib.hid (by rw [hD1];exact (makeD_fine HF0.out).mono (by decide))
    rw [← hE,← hD1] at hm6
    rw [← hE]
    rw [← hD1] at hd6
    have HE:=Lib.hid hE
    have HD1:=Lib.hid hD1
    have HM6:=Lib.hid hm6
    have HD6:=Lib.hid hd6
    have HR6:=Lib.hid (HR5.out.touch ht6 (noRefD HD5.out))
    have HX6:=Lib.hid (HX5.out.touch ht6 (diskNe HD5.out HX5.out (by decide) (by decide)))
    have HV6:=Lib.hid (HV5.out.touch ht6 (diskNe HD5.out HV5.out (by decide) (by decide)))
    have HB6:=Lib.hid (HB5.out.trans (ht6.below HB5.out.size (fun k hk e=>by omega)))
    have HC6:=Lib.hid (HC.out.below HB6.out)
    have HTW6:=Lib.hid (HTW5.out.touchB ht6 (fun k hk e=>by omega) (noU8D HD5.out))
    have hw6:=ht6.size
    clear ht6 hd6 hm6 hE hD1 HB5 HX5 HV5 HC5 HD5 HR5 HTW5 hb11
    as_aux_lemma =>
     go_wp2_with (first
       | (refine wpList_load_mid rfl 27 (.tmp 4) rfl bc 0 rfl (x.cells c.t) _ HX6.out.row Tryz.underlying27 rfl infoCfg5 ?_)
       | fail)
     refine (rmake_all _ w.heap.size rd rl rc D0 x c 0 w6 HR6.out HC6.out (fun k hk e=>by omega) HF0.out (by decide)).mono ?_
     rintro e w7 ⟨t,rfl,ht7,hr7,hm7⟩
     rw [← HE.out,← HD1.out] at hm7
     rw [← HE.out]
     rw [← HD1.out] at hr7
     have HP7:Hid (Prs w w7 bd bl rd rl rc s t D1 D1):=Lib.hid (by
       rcases HM6.out with ⟨k1,k2⟩ | ⟨k1,k2,bs,yx,k3,k4,k5⟩ <;> rcases hm7 with ⟨l1,l2⟩ | ⟨l1,l2,ts,yr,l3,l4,l5⟩
       · exact .inl ⟨k2,l2⟩
       · exact absurd l1 k1
       · exact absurd k1 l1
       · exact .inr ⟨bs,ts,yx,yr,c,k3,l3,StB.made k4 k5 HR6.out ht7 l4 l5 (by omega) (by omega) ⟨by omega,by omega⟩ ⟨by omega,by omega⟩ k2⟩)
     have HR7:=Lib.hid hr7
     have HX7:=Lib.hid (HX6.out.touch ht7 (refNe HR6.out HX6.out (by decide) (by decide)))
     have HV7:=Lib.hid (HV6.out.touch ht7 (refNe HR6.out HV6.out (by decide) (by decide)))
     have HD7:=Lib.hid (HD6.out.touch ht7 (refNe HR6.out HD6.out.cells (by decide) (by decide)) (refNe HR6.out HD6.out.row (by decide) (by decide)))
     have HB7:=Lib.hid (HB6.out.trans (ht7.below HB6.out.size (fun k hk e=>by omega)))
     have HC7:=Lib.hid (HC.out.below HB7.out)
     have HTW7:=Lib.hid (HTW6.out.touchB ht7 (fun k hk e=>by omega) (noU8R HR6.out))
     have hw7:=ht7.size
     clear ht7 hr7 hm7 HM6 HD6 HR6 HX6 HV6 HB6 HC6 HTW6 HE HD1
     as_aux_lemma =>
      have hee:(E == E)=true:=by simp
      have hne:(E != E)=false:=by simp
      go_wp2_with (first
        | (refine wpList_load_wanted (by rfl) 27 (.tmp 11) rfl b11 0 rfl ((y.stA c).cells c.t) _ HV7.out.row Tryz.underlying27 rfl infoCfg5 ?_)
        | (refine wpList_load_wanted (by rfl) 27 (.tmp 4) rfl bc 0 rfl (x.cells c.t) _ HX7.out.row Tryz.underlying27 rfl infoCfg5 ?_)
        | fail)
      as_aux_lemma =>
       refine (left_st x y c _ _ w7 HC7.out HTW7.out HCD.out).mono ?_;rintro e w8 ⟨rfl,hb8⟩
       have hal:Below w8.heap.size w8 (w8.alloc (.cells (bookC 0 (fun _=>.slice none 0 0)) 56)):=(Below.refl _ _).alloc (Nat.le_refl _) _
       have hb9:Below w7.heap.size w7 (w8.alloc (.cells (bookC 0 (fun _=>.slice none 0 0)) 56)):=hb8.trans (hal.mono hb8.size)
       have HK9:=Lib.hid (BkP.start w8 (QL w3.heap.size rd rl) w.heap.size (by have:=hb8.size;omega))
       have HB9:=Lib.hid (HB7.out.trans (hb9.mono HB7.out.size))
       have HX9:=Lib.hid (HX7.out.below hb9)
       have HV9:=Lib.hid (HV7.out.below hb9)
       have HD9:=Lib.hid (HD7.out.touch (Touch.of_below (S:=fun _=>False) hb9) id id)
       have HR9:=Lib.hid (HR7.out.below hb9)
       have HTW9:=Lib.hid (HTW7.out.below hb9)
       have HP9:=Lib.hid (HP7.out.after hb9)
       have hw9:=hb9.size
       clear hb8 hal hb9 HB7 HX7 HV7 HD7 HR7 HTW7 HP7 HC7 hee hne
       go_wp2_with (first
         | (refine wpList_alloc_any rfl 56 rfl _ zeroBook4 _ rfl ?_)
         | (refine wpList_load_mid rfl 27 (.tmp 11) rfl b11 0 rfl ((y.stA c).cells c.t) _ HV9.out.row Tryz.underlying27 rfl infoCfg5 ?_)
         | fail)
       generalize w8.alloc (.cells (bookC 0 (fun _=>.slice none 0 0)) 56)=w9 at HK9 HB9 HX9 HV9 HD9 HR9 HTW9 HP9 hw9 ⊢
       obtain ⟨bk,hbk⟩:∃ bk,bk=w8.heap.size:=⟨_,rfl⟩
       rw [← hbk] at HK9 ⊢
       clear hbk
       as_aux_lemma =>
        refine (tell_twin w9 w.heap.size bk w3.heap.size w9.heap.size rd rl 0 y c HK9.out HTW9.out (by omega) ⟨by omega,by omega⟩ (by omega) (Nat.le_refl _) HCD.out (by omega) hct (by decide)).mono ?_;rintro e w10 ⟨rfl,ht10,hk10⟩
        have HS:Hid (PlS w w10 bd bl rd rl rc bk 1004 bc x c s t D1 D1∧D1.fine (10*((0:Nat)+1:Int))):=Lib.hid ⟨PlS.kept (cnt:=0) ⟨⟨HB9.out,HD9.out,hdge,HR9.out,⟨rfl,rfl,rfl,.inl rfl⟩,HK9.out.mono (fun k hk=>⟨by have:=hk.1;omega,hk.2⟩) (Nat.le_refl _)⟩,HP9.out,HX9.out⟩ ht10 (hk10.mono (fun k hk=>hk) (by omega)),HF1.out.mono (by omega)⟩
        clear ht10 hk10 HK9 HB9 HX9 HV9 HD9 HR9 HTW9 HP9 HF1 HF0 HSA0 hw1 hw2 hw3 hw4 hw5 hw6 hw7 hw9 hdl hrl hrle hdge HON
        as_aux_lemma =>
         obtain ⟨M,hM⟩:∃ M,M=L.length:=⟨_,rfl⟩
         have HM:=Lib.hid hM
         have hM62:M≤62:=by omega
         clear hM
         go_wp2_with fail
         go_loopw [7,9,12,13,15] (fun d m s t i wr => ∃ (j bd bl rd rl rc:Nat) (D R:Dsk) (s' t':Value),j≤M∧d=.pointer (some ⟨bd,0,none⟩)∧m=.pointer (some ⟨rd,0,none⟩)∧s=s'∧t=t'∧i=.int .i64 j∧Hid (PlS w wr bd bl rd rl rc bk (1004+30*j) bc x c s' t' D R∧D.fine (10*((j:Int)+1)))) (fun d m s t i _=>M - (intOf i).toNat)
         case atStart=>exact ⟨0,bd,bl,rd,rl,rc,D1,D1,s,t,Nat.zero_le _,rfl,rfl,rfl,rfl,rfl,HS⟩
         case round =>
          as_aux_lemma =>
            clear HS
            obtain ⟨j,bd,bl,rd,rl,rc,D,R,s,t,hj,rfl,rfl,rfl,rfl,rfl,HS⟩:=hrel
            by_cases hlt:j<M
            · have hjL:j<L.length:=by rw [← HM.out];exact hlt
              go_upto_block 1 with fail
              go_cut [7,9,12,13] (fun d m s' t' wx=>PlMore w bk j bc x c d m s' t' wx)
              case first =>
                as_aux_lemma =>
                 rename_i J K hJ hM
                 refine wp_mono (play_round x c w wr la lc bc bk bd bl rd rl rc j M L D R _ _ _ _ _ _ _ _ _ _ _ _ _ _ _ _ _ _ _ _ _ _ _ _ _ _ _ _ _ _ _ _ _ _ _ _ _ _ _ _ _ _ _ _ _ _ _ _ _ _ _ _ _ _ _ _ _ _ _ _ _ _ _ _ _ _ _ _ _ _ _ _ _ _ _ _ _ _ _ _ _ _ _ _ _ _ _ _ _ _ _ _ _ _ _ _ _ _ _ _ _ _ _ _ _ _ _ _ _ _ _ _ _ _ _ _ _ _ _ _ _ _ _ _ _ _ _ _ _ _ _ _ _ _ _ _ _ _ _ _ _ _ _ _ _ _ _ _ _ _ _ _ _ _ _ _ _ _ _ _ _ _ _ _ _ _ _ _ _ _ _ _ _ _ _ _ _ _ _ _ _ _ _ _ _ _ _ _ _ _ _ _ _ _ _ _ _ _ _ _ _ _ _ _ _ _ _ _ _ _ _ _ _ _ _ _ _ _ _ _ _ _ _ _ _ _ _ _ _ _ _ _ _ _ _ _ _ _ _ _ _ _ _ _ _ _ _ _ _ _ _ _ _ _ _ _ _ _ _ _ _ _ _ _ _ _ _ _ _ _ _ _ _ _ _ _ _ _ _ _ _ _ _ _ _ _ _ _ _ _ _ _ _ _ _ _ _ _ _ _ _ _ _ _ _ _ _ _ _ _ _ _ _ _ _ _ _ _ _ _ _ _ _ _ HL HA HSM HCD HCM HC hct hcs HLEN HM hM62 hlt HS J K hJ hM) ?_
                 intro e a1 w2 hq
                 cases e <;> first | exact hq | exact False.elim hq | exact False.elim hq.2 | (obtain ⟨_,_,_,hf⟩:=hq;exact False.elim hf)
              case rest =>
                as_aux_lemma =>
                 clear HS
                 obtain ⟨bd,bl,rd,rl,rc,D,R,rfl,rfl,hS,hF⟩:=hcut
                 have HS0:=Lib.hid hS
                 have HF0:=Lib.hid hF
                 have hj1:j+1≤M:=hlt
                 clear hS hF
                 go_wp2_with fail
                 go_roundw
                 case rel=>exact ⟨j+1,bd,bl,rd,rl,rc,D,R,_,_,hj1,rfl,rfl,rfl,rfl,by go_num,Lib.hid ⟨HS0.out,HF0.out⟩⟩
                 case measure=>simp [intOf];omega
            · as_aux_lemma =>
                have hke:j=M:=by omega
                subst hke
                have hkk:¬ j<L.length:=by have:=HM.out;omega
                clear hlt
                go_wp2_with fail
                refine (apart_p _ w.heap.size bk _ _ HS.out.1.q.book).mono ?_;rintro e w9 ⟨rfl,hb9⟩
                have HB9:=Lib.hid (HS.out.1.q.below.trans hb9)
                clear hb9
                go_wp2_with fail
                refine (lives_any _).mono ?_;rintro e wa ⟨rfl,hba⟩
                have HBE:=Lib.hid (HB9.out.trans (hba.mono HB9.out.size))
                clear hba
                go_wp2
                go_ret
                exact ⟨rfl,HBE.out⟩
end Go.Proofs.YtgbikngicidbkaaGreatDoor
