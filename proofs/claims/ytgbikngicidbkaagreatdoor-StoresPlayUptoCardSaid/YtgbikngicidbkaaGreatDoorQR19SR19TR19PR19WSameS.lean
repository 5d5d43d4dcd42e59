/- The document's slots (salesroomref19): the sum of a record;and what a place's bytes tell,by numbers;conditions: those typed. -/
import Derived.Test.YtgbikngicidbkaaGreatDoorQGBaseSumsRefTwinLeftSameB
import Derived.Test.YtgbikngicidbkaaGreatDoorQR1Get
import Derived.Test.YtgbikngicidbkaaGreatDoorQRefDRefRRefWRefNRefCSameD
import Derived.Test.YtgbikngicidbkaaGreatDoorQGSlotsGetGSlotsLaw2StOldP
namespace Go.Proofs.YtgbikngicidbkaaGreatDoor
open Go.RowKit
set_option linter.unusedVariables false
set_option linter.unusedSimpArgs false
set_option maxRecDepth 100000
theorem leB_cons (q:Nat) (x:UInt8) (j:Nat):leB (q*256+x.toNat) (j+1)=x :: leB q j:=by
 have hx:=x.toNat_lt
 induction j with
 | zero =>
   have e:leB (q*256+x.toNat) (0+1)=[UInt8.ofNat ((q*256+x.toNat) / 256 ^ 0)]:=rfl
   rw [e]
   have:UInt8.ofNat ((q*256+x.toNat) / 256 ^ 0)=x:=UInt8.toNat_inj.1 (by simp)
   rw [this];rfl
 | succ j ih =>
   have e1:leB (q*256+x.toNat) (j+1+1)=leB (q*256+x.toNat) (j+1) ++ [UInt8.ofNat ((q*256+x.toNat) / 256 ^ (j+1))]:=rfl
   have e2:leB q (j+1)=leB q j ++ [UInt8.ofNat (q / 256 ^ j)]:=rfl
   have e3:(q*256+x.toNat) / 256 ^ (j+1)=q / 256 ^ j:=by
     rw [Nat.pow_succ,Nat.mul_comm (256 ^ j) 256,← Nat.div_div_eq_div_mul]
     congr 1
     omega
   rw [e1,ih,e2,e3]
   rfl
theorem leB_numOf (l:List UInt8):leB (numOf l) l.length=l:=by
 induction l with
 | nil=>rfl
 | cons x l ih=>rw [numOf_cons,List.length_cons,leB_cons,ih]
def sumN (num:Nat) (b:List UInt8):Nat:=onN (onN 2166136261 (mk6 num b)) b
theorem sumN_lt (num:Nat) (b:List UInt8):sumN num b<4294967296:=onN_lt _ (onN_lt _ (by decide) _) _
theorem onN_append (n:Nat) (a b:List UInt8):onN n (a ++ b)=onN (onN n a) b:=by unfold onN;rw [List.foldl_append]
def sumAt (D:Dsk) (p:Nat):Nat:=numOf (((secAt D (p+5)).drop 6).take 4)
theorem drop_split (h:List UInt8) (hl:h.length=64):h=h.take 4 ++ ((h.drop 4).take 2 ++ ((h.drop 6).take 4 ++ h.drop 10)):=by
 have e1:h.drop 6=(h.drop 6).take 4 ++ h.drop 10:=by
   have:=(List.take_append_drop 4 (h.drop 6)).symm
   rwa [List.drop_drop] at this
 have e2:h.drop 4=(h.drop 4).take 2 ++ h.drop 6:=by
   have:=(List.take_append_drop 2 (h.drop 4)).symm
   rwa [List.drop_drop] at this
 rw [← e1,← e2,List.take_append_drop]
theorem place_is (D:Dsk) (p:Nat) (hl:(secAt D (p+5)).length=64) (hr:(run5 D p 5).length=320) (hz:(secAt D (p+5)).drop 10=z54) (hm:manyAt D p≤320) (hn:numAt D p≠0) (hs:sumN (numAt D p) ((run5 D p 5).take (manyAt D p))=sumAt D p) :
   place D p=(numAt D p,(run5 D p 5).take (manyAt D p)):=by
 unfold place
 rw [if_neg (by omega),if_pos]
 have hbl:((run5 D p 5).take (manyAt D p)).length=manyAt D p:=by rw [List.length_take];omega
 have h4:leB (numAt D p) 4=(secAt D (p+5)).take 4:=by
   have:=leB_numOf ((secAt D (p+5)).take 4)
   rwa [List.length_take,hl] at this
 have h2:leB (manyAt D p) 2=((secAt D (p+5)).drop 4).take 2:=by
   have:=leB_numOf (((secAt D (p+5)).drop 4).take 2)
   rwa [List.length_take,List.length_drop,hl] at this
 have h6:leB (sumAt D p) 4=((secAt D (p+5)).drop 6).take 4:=by
   have:=leB_numOf (((secAt D (p+5)).drop 6).take 4)
   rwa [List.length_take,List.length_drop,hl] at this
 have e:mkB (numAt D p) ((run5 D p 5).take (manyAt D p))=leB (numAt D p) 4 ++ leB (manyAt D p) 2 ++ leB (sumN (numAt D p) ((run5 D p 5).take (manyAt D p))) 4:=by
   unfold mkB sumN mk6
   rw [hbl]
 rw [e,hs,h4,h2,h6,← hz]
 have:=drop_split _ hl
 simp only [List.append_assoc]
 exact this.symm
theorem place_no (D:Dsk) (p:Nat) (hl:(secAt D (p+5)).length=64) (hr:(run5 D p 5).length=320)
   (h:(secAt D (p+5)).drop 10≠z54∨320<manyAt D p∨numAt D p=0∨sumN (numAt D p) ((run5 D p 5).take (manyAt D p))≠sumAt D p):place D p=(0,[]):=by
 unfold place
 by_cases hA:numAt D p=0∨320<manyAt D p
 · rw [if_pos hA]
 · rw [if_neg hA,if_neg]
   intro e
   have hbl:((run5 D p 5).take (manyAt D p)).length=manyAt D p:=by rw [List.length_take];omega
   rcases h with h | h | h | h
   · apply h
     rw [← e,List.drop_append_of_le_length (by rw [mkB_length];exact Nat.le_refl _),List.drop_eq_nil_of_le (by rw [mkB_length];exact Nat.le_refl _),List.nil_append]
   · omega
   · omega
   · apply h
     unfold sumAt
     rw [← e]
     have e1:mkB (numAt D p) ((run5 D p 5).take (manyAt D p))=mk6 (numAt D p) ((run5 D p 5).take (manyAt D p)) ++ leB (sumN (numAt D p) ((run5 D p 5).take (manyAt D p))) 4:=rfl
     rw [e1,List.append_assoc,List.drop_left' (mk6_length _ _),List.take_left' (leB_length _ _),numOf_leB]
     have:=sumN_lt (numAt D p) ((run5 D p 5).take (manyAt D p))
     omega
set_option maxHeartbeats 2000000 in
theorem rsum_any (num:Nat) (hn32:num<4294967296) (a:Option Addr) (n c:Nat) (b:List UInt8) (w:World) (hb:IsB w a n c b) (hm:b.length≤65535) :
   Calls Tryz.prog 138 #[.int .u32 num,.slice a n c] w fun e w' => e=.returned (.int .u32 (sumN num b))∧Below w.heap.size w w':=by
 obtain rfl:=hb.1
 have HB:=Lib.hid hb
 clear hb
 have e1:IntKind.u64.wrap (num:Int)=(num:Int):=by rw [IntKind.wrap_u64];omega
 have e2:IntKind.u64.wrap (b.length:Int)=(b.length:Int):=by rw [IntKind.wrap_u64];omega
 go_enter Tryz.func138,Tryz.ntmps138
 go_wp2_with fail
 refine (rput_any none 0 0 [] num 4 w (IsB.nil _) (by simp) (by omega) (by decide)).mono ?_;rintro e w1 ⟨a1,c1,rfl,hb1,ho1⟩
 have hi1:=isB_of_owns ho1 (by simp [leB_length])
 rw [List.nil_append] at hi1
 go_wp2_with fail
 refine (rput_any a1 _ c1 (leB num 4) b.length 2 w1 hi1 (by rw [leB_length];decide) (by omega) (by decide)).mono ?_;rintro e w2 ⟨a2,c2,rfl,hb2,ho2⟩
 have ho2':w2.ownsRow w1.heap.size 5 1 (.slice a2 6 c2) 6 (bcells (mk6 num b)):=by
   rw [leB_length] at ho2
   exact ho2
 have hl4:(leB num 4).length=4:=leB_length _ _
 rw [hl4]
 have HB2:=HB.out.below (hb1.trans (hb2.mono hb1.size))
 have hat:=HB2.at
 have hlb:Hid ((bcells b).length=b.length*1):=Lib.hid (by rw [bcells_length];omega)
 have HBB:=Lib.hid (hb1.trans (hb2.mono hb1.size))
 have HSZ:Hid (w1.heap.size≤w2.heap.size):=Lib.hid hb2.size
 have HS1:Hid (w.heap.size≤w1.heap.size):=Lib.hid hb1.size
 clear hi1 ho1 ho2 hb1 hb2 HB2
 go_wp2_with (first
   | (at_builtin;refine wpList_append_any rowU8 rfl (.tmp 14) (.tmp 15) rfl w1.heap.size (.slice a2 6 c2) 6 (bcells (mk6 num b)) rfl ho2' a b.length c (bcells b) rfl hlb.out hat (bcells_one b) (by unfold maxLen;omega) (by omega) HSZ.out ?_;intro b3 c3 w3 hown3 hg3 hat3)
   | fail)
 have hb3:Below w2.heap.size w2 w3∨True:=.inr trivial
 have hB3:Below w.heap.size w w3:=HBB.out.grown hg3 HBB.out.size (fun i hi=>by
   have:=(ho2'.lt i hi).1
   have:=HS1.out
   omega)
 rw [← bcells_append] at hown3
 have hi3:=isB_of_owns hown3 (by rw [List.length_append,mk6_length])
 have HB3:=Lib.hid hB3
 clear hown3 hg3 hat3 hB3 hb3 ho2' hat hlb
 refine (rof_any b3 _ c3 (mk6 num b ++ b) w3 hi3).mono ?_;rintro e w4 ⟨rfl,rfl⟩
 go_wp2_with fail
 go_ret
 refine ⟨?_,HB3.out⟩
 rw [onN_append];rfl
theorem rread_sec (B rd rl rc:Nat) (R:Dsk) (n:Nat) (nI:Int) (w:World) (h:IsRef w B rd rl rc R) (hI:nI=(n:Int)) (hn:n<R.secs.length) :
   Calls Tryz.prog 203 #[.pointer (some ⟨rd,0,none⟩),.int .i64 nI] w fun e w' => ∃ b off c,e=.returned (.tuple #[.slice (some ⟨b,off,none⟩) 64 c,.int .i64 0])∧Below w.heap.size w w'∧IsB w' (some ⟨b,off,none⟩) 64 c (secAt R n):=by
 subst hI
 refine (rread_good B rd rl rc R n w h hn).mono ?_
 rintro e w' ⟨a,c,rfl,hb,hi⟩
 have e1:secAt R n=R.secs[n]:=by unfold secAt;simp [hn]
 have h64:=h.secs _ (List.getElem_mem hn)
 rw [← e1] at hi h64
 obtain ⟨b,off,rfl⟩:=hi.nonnil (by omega)
 exact ⟨b,off,c,rfl,hb,hi⟩
theorem rsec_length {w:World} {B rd rl rc:Nat} {R:Dsk} (h:IsRef w B rd rl rc R) (i:Nat) (hi:i<R.secs.length):(secAt R i).length=64:=by
 have e1:secAt R i=R.secs[i]:=by unfold secAt;simp [hi]
 rw [e1]
 exact h.secs _ (List.getElem_mem hi)
theorem rrun5_length {w:World} {B rd rl rc:Nat} {R:Dsk} (h:IsRef w B rd rl rc R) (p j:Nat) (hj:p+j≤R.secs.length):(run5 R p j).length=64*j:=run5_len h.secs p j hj
theorem drop_z54 (l:List UInt8) (hl:l.length=64) (h:∀ i (hi:i<l.length),10≤i→l[i]=0):l.drop 10=z54:=by
 apply List.ext_getElem
 · simp [z54,hl]
 · intro i h1 h2
   rw [List.getElem_drop]
   simp only [z54,List.getElem_replicate]
   exact h _ (by simp at h1;omega) (by omega)
theorem drop_not (l:List UInt8) (i:Nat) (hi:i<l.length) (h10:10≤i) (h:l[i]≠0):l.drop 10≠z54:=fun e=>by
 apply h
 have h1:(l.drop 10)[i - 10]?=some l[i]:=by
   rw [List.getElem?_drop,show 10+(i - 10)=i by omega,List.getElem?_eq_getElem hi]
 rw [e] at h1
 unfold z54 at h1
 rw [List.getElem?_replicate] at h1
 split at h1
 · simpa using h1.symm
 · cases h1
set_option maxHeartbeats 8000000 in
theorem rstands_any (B rd rl rc:Nat) (R:Dsk) (p:Nat) (pI:Int) (w:World) (h:IsRef w B rd rl rc R) (hI:pI=(p:Int)) (hp:p+5<R.secs.length) :
   Calls Tryz.prog 190 #[.pointer (some ⟨rd,0,none⟩),.int .i64 pI] w fun e w' => ∃ a m c,e=.returned (.tuple #[.int .u32 (place R p).1,.slice a m c])∧Below w.heap.size w w'∧IsB w' a m c (place R p).2:=by
 subst hI
 have hmost:=h.most
 have hl64:=rsec_length h (p+5) hp
 have hr5:=rrun5_length h p 5 (by omega)
 have HL:=Lib.hid hl64
 have HR5:=Lib.hid hr5
 obtain ⟨S,hS⟩:∃ S,S=secAt R (p+5):=⟨_,rfl⟩
 obtain ⟨n4,hn4⟩:∃ n4,n4=numAt R p:=⟨_,rfl⟩
 obtain ⟨m2,hm2⟩:∃ m2,m2=manyAt R p:=⟨_,rfl⟩
 obtain ⟨s4,hs4⟩:∃ s4,s4=sumAt R p:=⟨_,rfl⟩
 rw [← hS] at hl64
 have e4:numOf (S.take 4)=n4:=by rw [hn4,hS];rfl
 have e2:numOf (((S.drop 4).take 60).take 2)=m2:=by rw [List.take_take,hm2,hS];rfl
 have e6:numOf (((S.drop 6).take 58).take 4)=s4:=by rw [List.take_take,hs4,hS];rfl
 have b4:n4<4294967296:=by
   have:=numOf_lt (S.take 4)
   rw [List.length_take,hl64,e4] at this
   exact this
 have b2:m2<65536:=by
   have:=numOf_lt (((S.drop 4).take 60).take 2)
   rw [e2,List.length_take,List.length_take,List.length_drop,hl64] at this
   exact this
 have b6:s4<4294967296:=by
   have:=numOf_lt (((S.drop 6).take 58).take 4)
   rw [e6,List.length_take,List.length_take,List.length_drop,hl64] at this
   exact this
 have HS:=Lib.hid hS
 have HN4:=Lib.hid hn4
 have HM2:=Lib.hid hm2
 have HS4:=Lib.hid hs4
 have H:=Lib.hid h
 have E4:=Lib.hid e4
 have E2:=Lib.hid e2
 have E6:=Lib.hid e6
 have x1:IntKind.u32.wrap (n4:Int)=(n4:Int):=by rw [IntKind.wrap_u32];omega
 clear h hr5 hS hn4 hm2 hs4 e4 e2 e6
 go_enter Tryz.func190,Tryz.ntmps190
 go_wp2_with fail
 refine (rread_sec B rd rl rc R (p+5) _ w H.out (by omega) hp).mono ?_;rintro e w1 ⟨b,off,c,rfl,hb1,hi1⟩
 rw [← HS.out] at hi1
 have hc64:64≤c:=by have:=hi1.2.1;omega
 have hcm:c≤9223372036854775807:=by have:=hi1.2.2.1;unfold maxLen at this;omega
 have HB1:=Lib.hid hb1
 have HI1:=Lib.hid hi1
 have HR1:=Lib.hid (H.out.below hb1)
 clear hb1 hi1
 go_wp2_with fail
 refine (rget_any _ 64 c 4 _ S w1 rfl HI1.out (by decide) (by decide) (by omega)).mono ?_;rintro e w' ⟨rfl,rfl⟩
 rw [E4.out]
 go_wp2_with fail
 have hsub4:=HI1.out.sub 4 60 (c - 4) (by omega) (by omega) (by omega)
 have hsub6:=HI1.out.sub 6 58 (c - 6) (by omega) (by omega) (by omega)
 have hl60:((S.drop 4).take 60).length=60:=by simp [hl64]
 have hl58:((S.drop 6).take 58).length=58:=by simp [hl64]
 refine (rget_any _ 60 (c - 4) 2 _ ((S.drop 4).take 60) w1 rfl hsub4 (by decide) (by decide) (by omega)).mono ?_;rintro e w' ⟨rfl,rfl⟩
 rw [E2.out]
 go_wp2_with fail
 refine (rget_any _ 58 (c - 6) 4 _ ((S.drop 6).take 58) w1 rfl hsub6 (by decide) (by decide) (by omega)).mono ?_;rintro e w' ⟨rfl,rfl⟩
 rw [E6.out]
 clear hsub4 hsub6 hl60 hl58
 go_wp2_with fail
 obtain ⟨P,hP⟩:∃ P,P=64:=⟨_,rfl⟩
 have HP:=Lib.hid hP
 clear hP
 go_loopw [14] (fun i wr => ∃ k:Nat,10≤k∧k≤64∧i=.int .i64 k∧Hid (∀ i (hi:i<S.length),10≤i→i<k→S[i]=0)∧wr=w1) (fun i _=>P - (intOf i).toNat)
 case atStart=>exact ⟨10,by decide,by decide,rfl,Lib.hid (fun i hi h1 h2=>by omega),rfl⟩
 case round =>
   obtain ⟨k,hk10,hk,rfl,HZ,rfl⟩:=hrel
   by_cases hlt:k<64
   · have hkS:k<S.length:=by omega
     have c1:wr.cell? ⟨b,off+k,none⟩=some (.int .u8 S[k].toNat):=by
       rcases HI1.out.2.2.2 with ⟨h0,_⟩ | ⟨b',off',e,_,hc⟩
       · rw [h0] at hkS;simp at hkS
       · cases e;exact hc k hkS
     by_cases h0:S[k]=0
     · have hd:((S[k].toNat:Int) != 0)=false:=by rw [h0];rfl
       have hZ2:Hid (∀ i (hi:i<S.length),10≤i→i<k+1→S[i]=0):=Lib.hid (fun i hi h1 h2=>by
         by_cases hik:i=k
         · subst hik;exact h0
         · exact HZ.out i hi h1 (by omega))
       clear h0 HZ
       go_wp2_with fail
       go_roundw
       case rel=>exact ⟨k+1,by omega,by omega,by go_num,hZ2,trivial⟩
       case measure=>have:=HP.out;simp [intOf];omega
     · have hd:((S[k].toNat:Int) != 0)=true:=by
         rw [bne_iff_ne]
         intro e
         exact h0 (UInt8.toNat_inj.1 (by have : S[k].toNat = 0 := by omega
                                         rw [this];rfl))
       have HPL:Hid (place R p=(0,[])):=Lib.hid (place_no R p HL.out HR5.out (.inl (by rw [← HS.out];exact drop_not S k hkS hk10 h0)))
       clear h0
       go_wp2_with fail
       go_ret2
       rw [HPL.out]
       exact ⟨none,0,0,rfl,HB1.out,isB_nil _⟩
   · have hd64:decide ((k:Int)<64)=false:=by simp;omega
     have HZZ:Hid (S.drop 10=z54):=Lib.hid (drop_z54 S hl64 (fun i hi h=>HZ.out i hi h (by omega)))
     clear HZ HP
     by_cases hmm:320<m2
     · have HPL:Hid (place R p=(0,[])):=Lib.hid (place_no R p HL.out HR5.out (.inr (.inl (by rw [← HM2.out];exact hmm))))
       go_wp2_with fail
       go_ret2
       rw [HPL.out]
       exact ⟨none,0,0,rfl,HB1.out,isB_nil _⟩
     · have hm320:m2≤320:=by omega
       have HR1':=HR1
       go_wp2_with fail
       obtain ⟨P,hP⟩:∃ P,P=5:=⟨_,rfl⟩
       have HP:=Lib.hid hP
       clear hP
       go_loopw [16,15] (fun i s wk => ∃ t nn:Nat,∃ b' c',t≤5∧i=.int .i64 t∧s=.slice b' nn c'∧Hid (nn=64*t)∧Hid (wk.ownsRow w.heap.size 5 1 (.slice b' nn c') nn (bcells (run5 R p t)))∧Hid (Below w.heap.size w wk)) (fun i _ _=>P - (intOf i).toNat)
       case atStart=>exact ⟨0,0,none,0,by decide,rfl,rfl,Lib.hid rfl,Lib.hid (World.ownsRow_nil _ _ _ _),HB1⟩
       case round =>
         obtain ⟨t,nn,b',c',ht,rfl,rfl,HNN,HO,HB⟩:=hrel
         have hn320:nn≤320:=by have:=HNN.out;omega
         by_cases ht5:t<5
         · go_wp2_with fail
           refine (rread_sec B rd rl rc R (p+t) _ _ (H.out.below HB.out) (by omega) (by omega)).mono ?_;rintro e w3 ⟨b3,off3,c3,rfl,hb3,hi3⟩
           have HO3:=Lib.hid (owns_below HO.out hb3)
           have HB3:=Lib.hid (HB.out.trans (hb3.mono HB.out.size))
           have hat:=hi3.at
           have hls:(secAt R (p+t)).length=64:=hi3.1.symm
           have hlb:Hid ((bcells (secAt R (p+t))).length=64*1):=Lib.hid (by rw [bcells_length,hls])
           clear hb3 hi3 hls
           go_wp2_with (first
             | (at_builtin;refine wpList_append_any rowU8 rfl (.tmp 67) (.tmp 68) rfl w.heap.size (.slice b' nn c') nn (bcells (run5 R p t)) rfl HO3.out (some ⟨b3,off3,none⟩) 64 c3 (bcells (secAt R (p+t))) rfl hlb.out hat (bcells_one _) (by unfold maxLen;omega) (by omega) HB3.out.size ?_;intro b4 c4 w4 hown4 hg4 hat4)
             | fail)
           have HB4:=Lib.hid (HB3.out.grown hg4 HB3.out.size (fun i hi=>(HO3.out.lt i hi).1))
           have HO4:Hid (w4.ownsRow w.heap.size 5 1 (.slice b4 (nn+64) c4) (nn+64) (bcells (run5 R p (t+1)))):=Lib.hid (by
             rw [← bcells_append] at hown4
             exact hown4)
           clear hown4 hg4 hat4 hat hlb
           go_wp2_with fail
           go_roundw
           case rel=>exact ⟨t+1,nn+64,b4,c4,by omega,by go_num,rfl,Lib.hid (by have:=HNN.out;omega),HO4,HB4⟩
           case measure=>have:=HP.out;simp [intOf];omega
         · have hte:t=5:=by omega
           subst hte
           obtain rfl:nn=320:=by have:=HNN.out;omega
           have hi5:=isB_of_owns HO.out (by rw [HR5.out])
           obtain ⟨g,og,rfl⟩:=hi5.nonnil (by rw [HR5.out];decide)
           have hc':320≤c':=by have:=hi5.2.1;rw [HR5.out] at this;omega
           have hcm':c'≤9223372036854775807:=by have:=hi5.2.2.1;unfold maxLen at this;omega
           have hib:∀ u:World,u=wr→IsB u (some ⟨g,og,none⟩) m2 c' ((run5 R p 5).take m2):=fun u hu=>by
             subst hu
             have:=hi5.sub 0 m2 c' (by rw [HR5.out];omega) (by omega) (Nat.le_refl _)
             simpa using this
           have HIB:=Lib.hid (hib wr rfl)
           have hbl:((run5 R p 5).take m2).length≤65535:=by rw [List.length_take];omega
           clear hi5 hib HP
           by_cases hn0:n4=0
           · have HPL:Hid (place R p=(0,[])):=Lib.hid (place_no R p HL.out HR5.out (.inr (.inr (.inl (by rw [← HN4.out];exact hn0)))))
             have hd:((n4:Int) == 0)=true:=by rw [hn0];rfl
             clear hn0
             go_wp2_with fail
             go_ret2
             rw [HPL.out]
             exact ⟨none,0,0,rfl,HB.out,isB_nil _⟩
           · have hd:((n4:Int) == 0)=false:=by rw [beq_eq_false_iff_ne];omega
             have hsl:=sumN_lt n4 ((run5 R p 5).take m2)
             obtain ⟨sv,hsv⟩:∃ sv,sv=sumN n4 ((run5 R p 5).take m2):=⟨_,rfl⟩
             have HSUM:Hid (Calls Tryz.prog 138 #[.int .u32 n4,.slice (some ⟨g,og,none⟩) m2 c'] wr fun e w' => e=.returned (.int .u32 sv)∧Below wr.heap.size wr w'):=Lib.hid (by rw [hsv];exact rsum_any n4 b4 _ m2 c' _ wr HIB.out hbl)
             rw [← hsv] at hsl
             have HSV:=Lib.hid hsv
             have x2:IntKind.u64.wrap (sv:Int)=(sv:Int):=by rw [IntKind.wrap_u64];omega
             clear hsv
             by_cases hss:sv=s4
             · have hd2:((sv:Int) != (s4:Int))=false:=by rw [hss];simp
               have HPL:Hid (place R p=(n4,(run5 R p 5).take m2)):=Lib.hid (by
                 rw [HN4.out,HM2.out]
                 refine place_is R p HL.out HR5.out (by rw [← HS.out];exact HZZ.out) (by rw [← HM2.out];exact hm320) (by rw [← HN4.out];exact hn0) ?_
                 rw [← HN4.out,← HM2.out,← HS4.out,← HSV.out];exact hss)
               clear hss hn0
               go_wp2_with fail
               refine HSUM.out.mono ?_;rintro e w5 ⟨rfl,hb5⟩
               have HB5:=Lib.hid (HB.out.trans (hb5.mono HB.out.size))
               have HI5:=Lib.hid (HIB.out.below hb5)
               clear hb5
               go_wp2_with fail
               go_ret2
               rw [HPL.out]
               exact ⟨some ⟨g,og,none⟩,m2,c',rfl,HB5.out,HI5.out⟩
             · have hd2:((sv:Int) != (s4:Int))=true:=by rw [bne_iff_ne];omega
               have HPL:Hid (place R p=(0,[])):=Lib.hid (place_no R p HL.out HR5.out (.inr (.inr (.inr (by rw [← HN4.out,← HM2.out,← HS4.out,← HSV.out];exact hss)))))
               clear hss hn0
               go_wp2_with fail
               refine HSUM.out.mono ?_;rintro e w5 ⟨rfl,hb5⟩
               have HB5:=Lib.hid (HB.out.trans (hb5.mono HB.out.size))
               clear hb5
               go_wp2_with fail
               go_ret2
               rw [HPL.out]
               exact ⟨none,0,0,rfl,HB5.out,isB_nil _⟩
def rwhich (R:Dsk) (p:Nat):Int:=if (place R p).1<(place R (p+6)).1 then 1 else 0
theorem place_zero (D:Dsk) (p:Nat) (h:(place D p).1=0):place D p=(0,[]):=by
 unfold place at h ⊢
 by_cases hA:numAt D p=0∨320<manyAt D p
 · rw [if_pos hA]
 · rw [if_neg hA] at h ⊢
   split at h
   · exact absurd (.inl h) hA
   · rename_i h2
     rw [if_neg h2]
theorem newest_hi (D:Dsk) (p:Nat) (h:(place D p).1<(place D (p+6)).1):newestW D p=(place D (p+6),p):=if_pos h
theorem newest_lo (D:Dsk) (p:Nat) (h:¬ (place D p).1<(place D (p+6)).1):(newestW D p).1=place D p:=by
 unfold newestW
 rw [if_neg h]
 split
 · rfl
 · rename_i h2
   rw [place_zero D p (by omega)]
theorem newest_to (D:Dsk) (p:Nat):(newestW D p).2=if 0<(newestW D p).1.1∧rwhich D p=0 then p+6 else p:=by
 by_cases h:(place D p).1<(place D (p+6)).1
 · have e:rwhich D p=1:=if_pos h
   rw [newest_hi D p h,e,if_neg (by omega)]
 · have e:rwhich D p=0:=if_neg h
   rw [newest_lo D p h,e]
   unfold newestW
   rw [if_neg h]
   by_cases h2:0<(place D p).1
   · rw [if_pos h2,if_pos ⟨h2,rfl⟩]
   · rw [if_neg h2,if_neg (fun h3=>h2 h3.1)]
set_option maxHeartbeats 2000000 in
theorem rnewest_any (B rd rl rc:Nat) (R:Dsk) (p:Nat) (pI:Int) (w:World) (h:IsRef w B rd rl rc R) (hI:pI=(p:Int)) (hp:p+12≤R.secs.length) :
   Calls Tryz.prog 137 #[.pointer (some ⟨rd,0,none⟩),.int .i64 pI] w fun e w' => ∃ a m c,e=.returned (.tuple #[.int .i64 (rwhich R p),.int .u32 (newestW R p).1.1,.slice a m c])∧Below w.heap.size w w'∧IsB w' a m c (newestW R p).1.2:=by
 subst hI
 have hmost:=h.most
 have H:=Lib.hid h
 clear h
 obtain ⟨n0,hn0⟩:∃ n0,n0=(place R p).1:=⟨_,rfl⟩
 obtain ⟨n1,hn1⟩:∃ n1,n1=(place R (p+6)).1:=⟨_,rfl⟩
 have S0:Hid (∀ (w:World),IsRef w B rd rl rc R→Calls Tryz.prog 190 #[.pointer (some ⟨rd,0,none⟩),.int .i64 p] w fun e w' => ∃ a m c,e=.returned (.tuple #[.int .u32 n0,.slice a m c])∧Below w.heap.size w w'∧IsB w' a m c (place R p).2):=Lib.hid (fun w h=>by rw [hn0];exact rstands_any B rd rl rc R p _ w h rfl (by omega))
 have S1:Hid (∀ (w:World),IsRef w B rd rl rc R→Calls Tryz.prog 190 #[.pointer (some ⟨rd,0,none⟩),.int .i64 ((p:Int)+6)] w fun e w' => ∃ a m c,e=.returned (.tuple #[.int .u32 n1,.slice a m c])∧Below w.heap.size w w'∧IsB w' a m c (place R (p+6)).2):=Lib.hid (fun w h=>by rw [hn1];exact rstands_any B rd rl rc R (p+6) _ w h (by omega) (by omega))
 by_cases hlt:n0<n1
 · have HW:Hid (rwhich R p=1∧(newestW R p).1=place R (p+6)∧(newestW R p).1.1=n1):=Lib.hid (by
     have hh:(place R p).1<(place R (p+6)).1:=by rw [← hn0,← hn1];exact hlt
     exact ⟨if_pos hh,by rw [newest_hi R p hh],by rw [newest_hi R p hh,hn1]⟩)
   have hd:decide (n0<n1)=true:=decide_eq_true hlt
   clear hn0 hn1 hlt
   go_enter Tryz.func137,Tryz.ntmps137
   go_wp2_with fail
   refine (S0.out w H.out).mono ?_;rintro e w1 ⟨a0,m0,c0,rfl,hb1,hi1⟩
   go_wp2_with fail
   refine (S1.out w1 (H.out.below hb1)).mono ?_;rintro e w2 ⟨a1,m1,c1,rfl,hb2,hi2⟩
   have HB2:=Lib.hid (hb1.trans (hb2.mono hb1.size))
   have HI2:=Lib.hid hi2
   clear hb1 hb2 hi1 hi2
   go_wp2_with fail
   go_ret3
   obtain ⟨e1,e2,e3⟩:=HW.out
   exact ⟨a1,m1,c1,by rw [e1,e3];rfl,HB2.out,by rw [e2];exact HI2.out⟩
 · have HW:Hid (rwhich R p=0∧(newestW R p).1=place R p∧(newestW R p).1.1=n0):=Lib.hid (by
     have hh:¬ (place R p).1<(place R (p+6)).1:=by rw [← hn0,← hn1];exact hlt
     exact ⟨if_neg hh,newest_lo R p hh,by rw [newest_lo R p hh,hn0]⟩)
   have hd:decide (n0<n1)=false:=decide_eq_false hlt
   clear hn0 hn1 hlt
   go_enter Tryz.func137,Tryz.ntmps137
   go_wp2_with fail
   refine (S0.out w H.out).mono ?_;rintro e w1 ⟨a0,m0,c0,rfl,hb1,hi1⟩
   have HI1:=Lib.hid hi1
   go_wp2_with fail
   refine (S1.out w1 (H.out.below hb1)).mono ?_;rintro e w2 ⟨a1,m1,c1,rfl,hb2,hi2⟩
   have HB2:=Lib.hid (hb1.trans (hb2.mono hb1.size))
   have HI2:=Lib.hid (HI1.out.below hb2)
   clear hb1 hb2 hi1 hi2
   go_wp2_with fail
   go_ret3
   obtain ⟨e1,e2,e3⟩:=HW.out
   exact ⟨a0,m0,c0,by rw [e1,e3];rfl,HB2.out,by rw [e2];exact HI2.out⟩
theorem rthere_any (B rd rl rc:Nat) (R:Dsk) (p:Int) (w:World) (h:IsRef w B rd rl rc R) :
   Calls Tryz.prog 136 #[.pointer (some ⟨rd,0,none⟩),.int .i64 p] w fun e w' => e=.returned (.bool (decide (¬ (p<0∨(R.secs.length:Int) - 12<p))))∧w=w':=by
 have hm:=h.most
 have hp:=h.pos
 have H:=Lib.hid h
 clear h
 by_cases h0:p<0
 · have d0:decide (0≤p)=false:=decide_eq_false (by omega)
   have d1:decide (¬ (p<0∨(R.secs.length:Int) - 12<p))=false:=decide_eq_false (by omega)
   rw [d1]
   clear d1 h0
   go_enter Tryz.func136,Tryz.ntmps136
   go_wp2_with fail
   go_ret
   exact ⟨rfl,rfl⟩
 · have d0:decide (0≤p)=true:=decide_eq_true (by omega)
   by_cases h1:(R.secs.length:Int) - 12<p
   · have d1:decide (p≤(R.secs.length:Int) - 12)=false:=decide_eq_false (by omega)
     have d2:decide (¬ (p<0∨(R.secs.length:Int) - 12<p))=false:=decide_eq_false (by omega)
     rw [d2]
     clear d2 h0 h1
     go_enter Tryz.func136,Tryz.ntmps136
     go_wp2_with fail
     refine (rlen_any B rd rl rc R w H.out).mono ?_;rintro e w' ⟨rfl,rfl⟩
     go_wp2_with fail
     go_ret
     exact ⟨rfl,rfl⟩
   · have d1:decide (p≤(R.secs.length:Int) - 12)=true:=decide_eq_true (by omega)
     have d2:decide (¬ (p<0∨(R.secs.length:Int) - 12<p))=true:=decide_eq_true (by omega)
     rw [d2]
     clear d2 h0 h1
     go_enter Tryz.func136,Tryz.ntmps136
     go_wp2_with fail
     refine (rlen_any B rd rl rc R w H.out).mono ?_;rintro e w' ⟨rfl,rfl⟩
     go_wp2_with fail
     go_ret
     exact ⟨rfl,rfl⟩
theorem rnewest_lt {w:World} {B rd rl rc:Nat} {R:Dsk} (h:IsRef w B rd rl rc R) (p:Nat) (hp:p+12≤R.secs.length):(newestW R p).1.1<4294967296:=by
 have h1:=place_lt R p (rsec_length h _ (by omega))
 have h2:=place_lt R (p+6) (rsec_length h _ (by omega))
 unfold newestW
 split
 · exact h2
 · split
   · exact h1
   · show 0<4294967296;decide
theorem rnewest_short {w:World} {B rd rl rc:Nat} {R:Dsk} (h:IsRef w B rd rl rc R) (p:Nat) (hp:p+12≤R.secs.length):(newestW R p).1.2.length≤320:=by
 have h1:=place_short R p (rrun5_length h p 5 (by omega))
 have h2:=place_short R (p+6) (rrun5_length h (p+6) 5 (by omega))
 unfold newestW
 split
 · exact h2
 · split
   · exact h1
   · simp
set_option maxHeartbeats 8000000 in
theorem rput19_any (B rd rl rc:Nat) (R:Dsk) (p:Int) (num:Nat) (a:Option Addr) (n c:Nat) (b:List UInt8) (k:Int) (w:World) (h:IsRef w B rd rl rc R) (hb:IsB w a n c b) (hab:∀ x off,a=some ⟨x,off,none⟩→b≠[]→¬ (x=rd∨x=rl)) (hk:R.fine k) (hk2:k≤1000000000000000) (hn:num<4294967296) :
   Calls Tryz.prog 61 #[.pointer (some ⟨rd,0,none⟩),.int .i64 p,.int .u32 num,.slice a n c] w fun e w' => e=.returned (.int .i64 (R.put p num b).1)∧Touch (fun k=>k=rd∨k=rl) w w'∧IsRef w' B rd rl rc (R.put p num b).2:=by
 obtain rfl:=hb.1
 have hm:=h.most
 have hp:=h.pos
 by_cases hr:p<0∨(R.secs.length:Int) - 12<p
 · have hpl:R.put p num b=(1,R):=if_pos hr
   rw [hpl]
   have d2:decide (¬ (p<0∨(R.secs.length:Int) - 12<p))=false:=decide_eq_false (fun h=>h hr)
   clear hpl hab hb hk hk2 hr
   go_enter Tryz.func61,Tryz.ntmps61
   go_wp2_with fail
   refine (rthere_any B rd rl rc R p w h).mono ?_;rintro e w' ⟨rfl,rfl⟩;rw [d2]
   go_wp2_with fail
   go_ret
   exact ⟨rfl,Touch.refl _ _,h⟩
 have d2:decide (¬ (p<0∨(R.secs.length:Int) - 12<p))=true:=decide_eq_true hr
 by_cases hl:320<b.length
 · have hpl:R.put p num b=(3,R):=by unfold Dsk.put;rw [if_neg hr,if_pos hl]
   rw [hpl]
   have d3:decide ((320:Int)<(b.length:Int))=true:=decide_eq_true (by omega)
   clear hpl hab hb hk hk2 hr hl
   go_enter Tryz.func61,Tryz.ntmps61
   go_wp2_with fail
   refine (rthere_any B rd rl rc R p w h).mono ?_;rintro e w' ⟨rfl,rfl⟩;rw [d2]
   go_wp2_with fail
   go_ret
   exact ⟨rfl,Touch.refl _ _,h⟩
 have d3:decide ((320:Int)<(b.length:Int))=false:=decide_eq_false (by omega)
 obtain ⟨q,rfl⟩:∃ q:Nat,p=(q:Int):=⟨p.toNat,by omega⟩
 have hq:q+12≤R.secs.length:=by omega
 obtain ⟨Z,hZ⟩:∃ Z,Z=R.put (q:Int) num b:=⟨_,rfl⟩
 rw [← hZ]
 obtain ⟨to,hto⟩:∃ to,to=(newestW R q).2:=⟨_,rfl⟩
 obtain ⟨xn,hxn⟩:∃ xn,xn=(newestW R q).1.1:=⟨_,rfl⟩
 obtain ⟨wh,hwh⟩:∃ wh,wh=rwhich R q:=⟨_,rfl⟩
 have HPUT:Hid (Z=if num≤xn then (10,R) else
     if (wrs R to b (secsOf b)).1≠0 then (8,(wrs R to b (secsOf b)).2) else
     if ((wrs R to b (secsOf b)).2.write (to+5:Nat) (mkB num b)).1≠0 then (8,((wrs R to b (secsOf b)).2.write (to+5:Nat) (mkB num b)).2) else
     (0,((wrs R to b (secsOf b)).2.write (to+5:Nat) (mkB num b)).2)):=Lib.hid (by rw [hZ,hto,hxn];unfold Dsk.put;rw [if_neg hr,if_neg hl];rfl)
 have htoq:=newestW_to R q
 rw [← hto] at htoq
 have htow:=newest_to R q
 rw [← hto,← hxn,← hwh] at htow
 have hlt:=rnewest_lt h q hq
 rw [← hxn] at hlt
 have hwh01:wh=0∨wh=1:=by rw [hwh];unfold rwhich;split <;> simp
 have HNEW:Hid (∀ w,IsRef w B rd rl rc R→Calls Tryz.prog 137 #[.pointer (some ⟨rd,0,none⟩),.int .i64 (q:Int)] w fun e w' => ∃ a m c,e=.returned (.tuple #[.int .i64 wh,.int .u32 xn,.slice a m c])∧Below w.heap.size w w'):=Lib.hid (fun w h=>(rnewest_any B rd rl rc R q (q:Int) w h rfl hq).mono fun e w' ⟨a,m,c,h1,h2,_⟩ => ⟨a,m,c,by rw [hwh,hxn];exact h1,h2⟩)
 have hto':to≤q+6:=by rcases htoq with h | h <;> omega
 have HTO:=Lib.hid hto'
 have HQ:=Lib.hid hq
 have HTW:=Lib.hid htow
 have HAB:=Lib.hid hab
 have HF:=Lib.hid hk
 have HR:=Lib.hid h
 have HB0:=Lib.hid hb
 have HL:=Lib.hid hl
 clear hto hxn hwh htoq htow hr hp hZ hq hab hk h hb hl
 go_enter Tryz.func61,Tryz.ntmps61
 go_wp2_with fail
 refine (rthere_any B rd rl rc R _ w HR.out).mono ?_;rintro e w' ⟨rfl,rfl⟩;rw [d2]
 go_wp2_with fail
 refine (HNEW.out w HR.out).mono ?_;rintro e w1 ⟨xa,xm,xc,rfl,hb1⟩
 have hw1s:=hb1.size
 have HR1:=Lib.hid (HR.out.below hb1)
 have HB1:=Lib.hid (HB0.out.below hb1)
 have HT1:Hid (Touch (fun k=>k=rd∨k=rl) w w1):=Lib.hid (Touch.of_below hb1)
 clear hb1
 by_cases hold:num≤xn
 · have d4:decide (num≤xn)=true:=decide_eq_true hold
   have HZ:Hid (Z=(10,R)):=Lib.hid (by rw [HPUT.out,if_pos hold])
   clear hold
   go_wp2_with fail
   go_ret
   rw [HZ.out]
   exact ⟨rfl,HT1.out,HR1.out⟩
 have d4:decide (num≤xn)=false:=decide_eq_false hold
 have HZ:Hid (Z=if (wrs R to b (secsOf b)).1≠0 then (8,(wrs R to b (secsOf b)).2) else
     if ((wrs R to b (secsOf b)).2.write (to+5:Nat) (mkB num b)).1≠0 then (8,((wrs R to b (secsOf b)).2.write (to+5:Nat) (mkB num b)).2) else
     (0,((wrs R to b (secsOf b)).2.write (to+5:Nat) (mkB num b)).2)):=Lib.hid (by rw [HPUT.out,if_neg hold])
 clear HPUT hold HNEW
 obtain ⟨N,hN⟩:∃ N,N=b.length+64:=⟨_,rfl⟩
 have HN:=Lib.hid hN
 clear hN
 have hc:(0<xn∧wh=0∧to=q+6)∨(¬ 0<xn∧to=q)∨(0<xn∧wh=1∧to=q):=by
   by_cases h1:0<xn
   · rcases hwh01 with h2 | h2
     · exact .inl ⟨h1,h2,by rw [HTW.out,if_pos ⟨h1,h2⟩]⟩
     · exact .inr (.inr ⟨h1,h2,by rw [HTW.out,if_neg (by omega)]⟩)
   · exact .inr (.inl ⟨h1,by rw [HTW.out,if_neg (by omega)]⟩)
 clear hwh01 HTW
 rcases hc with hc | hc | hc
 case' inl =>
   obtain ⟨h1,rfl,h3⟩:=hc
   have HTI:Hid (((q:Int)+6)=(to:Int)):=Lib.hid (by omega)
   have hti0:0≤(q:Int)+6:=by omega
   have hti1:(q:Int)+6≤2000:=by have:=HQ.out;omega
   have d5:decide (0<xn)=true:=decide_eq_true h1
   clear h1 h3
   go_wp2_with fail
   generalize (q:Int)+6=toI at HTI hti0 hti1 ⊢
 case' inr.inl =>
   obtain ⟨h1,h3⟩:=hc
   have HTI:Hid ((q:Int)=(to:Int)):=Lib.hid (by omega)
   have hti0:0≤(q:Int):=by omega
   have hti1:(q:Int)≤2000:=by have:=HQ.out;omega
   have d5:decide (0<xn)=false:=decide_eq_false h1
   clear h1 h3
   go_wp2_with fail
   generalize (q:Int)=toI at HTI hti0 hti1 ⊢
 case' inr.inr =>
   obtain ⟨h1,rfl,h3⟩:=hc
   have HTI:Hid ((q:Int)=(to:Int)):=Lib.hid (by omega)
   have hti0:0≤(q:Int):=by omega
   have hti1:(q:Int)≤2000:=by have:=HQ.out;omega
   have d5:decide (0<xn)=true:=decide_eq_true h1
   clear h1 h3
   go_wp2_with fail
   generalize (q:Int)=toI at HTI hti0 hti1 ⊢
 all_goals
   go_loopw [13] (fun i wr => ∃ j:Nat,j≤secsOf b∧i=.int .i64 j∧Hid ((wrs R to b j).1=0)∧Hid (IsRef wr B rd rl rc (wrs R to b j).2)∧Hid (Touch (fun k=>k=rd∨k=rl) w wr)∧Hid (IsB wr a b.length c b)) (fun i _=>N - (intOf i).toNat)
   case atStart=>exact ⟨0,Nat.zero_le _,rfl,Lib.hid rfl,HR1,HT1,HB1⟩
   case round =>
     obtain ⟨j,hj,rfl,he,hd,ht,hbb⟩:=hrel
     have hsec:secsOf b*64≤b.length+63:=by unfold secsOf;omega
     have hb320:b.length≤320:=by have:=HL.out;omega
     have hj6:j≤6:=by omega
     by_cases hlt:j*64<b.length
     · obtain ⟨ab,ao,rfl⟩:=hbb.out.nonnil (by omega)
       have hcl:b.length≤c:=hbb.out.2.1
       have hjs:j<secsOf b:=by unfold secsOf;omega
       have HQD:Hid (toI+(j:Int)=((to+j:Nat):Int)):=Lib.hid (by have:=HTI.out;omega)
       have hb1:Hid (wrs R to b (j+1)=(wrs R to b j).2.write ((to+j:Nat):Int) (chunk b j)):=Lib.hid (if_neg (fun h=>h he.out))
       have HOK:Hid (wrs R to b j).2.ok:=Lib.hid ((wrs_fine HF.out to b j).ok (by omega))
       by_cases h1:b.length≤j*64+64
       case' pos =>
         have hsub:Hid (IsB wr (some ⟨ab,ao+j*64,none⟩) (b.length - j*64) (c - j*64) (chunk b j)):=Lib.hid (by
           have:=hbb.out.sub (j*64) (b.length - j*64) (c - j*64) (by omega) (by omega) (by omega)
           unfold chunk
           rw [Nat.mul_comm 64 j,List.take_of_length_le (by simp;omega)]
           rwa [List.take_of_length_le (by simp)] at this)
       case' neg =>
         have hsub:Hid (IsB wr (some ⟨ab,ao+j*64,none⟩) 64 (c - j*64) (chunk b j)):=Lib.hid (by
           have:=hbb.out.sub (j*64) 64 (c - j*64) (by omega) (by omega) (by omega)
           unfold chunk
           rwa [Nat.mul_comm 64 j])
       all_goals
         go_wp2_with fail
         rw [HQD.out]
         refine (rwrite_any B rd rl rc (wrs R to b j).2 ((to+j:Nat):Int) _ _ (c - j*64) (chunk b j) wr hd.out hsub.out HOK.out).mono ?_;rintro e w3 ⟨rfl,ht3,hd3⟩
         rw [← hb1.out] at hd3 ⊢
         have ht3':=ht.out.trans ht3
         have hb3:=hbb.out.touch ht3 (fun x off h hl=>HAB.out x off h hl)
         by_cases he1:(wrs R to b (j+1)).1=0
         · have hd1:((wrs R to b (j+1)).1 != 0)=false:=by rw [he1];rfl
           have HE1:=Lib.hid he1
           clear he1
           go_wp2_with fail
           go_roundw
           case rel=>exact ⟨j+1,by omega,by go_num,HE1,Lib.hid hd3,Lib.hid ht3',Lib.hid hb3⟩
           case measure=>have:=HN.out;simp [intOf];omega
         · have hd1:((wrs R to b (j+1)).1 != 0)=true:=by rw [bne_iff_ne];exact he1
           have HE1:=Lib.hid he1
           obtain ⟨i,hi⟩:∃ i,secsOf b=j+1+i:=⟨secsOf b - (j+1),by omega⟩
           have hst:=wrs_stuck R to b (j+1) i he1
           rw [← hi] at hst
           have HRR:Hid (Z=(8,(wrs R to b (j+1)).2)):=Lib.hid (by rw [HZ.out,if_pos (by rw [hst];exact HE1.out),hst])
           clear he1 hst hi
           go_wp2_with fail
           go_ret
           rw [HRR.out]
           exact ⟨rfl,ht3',hd3⟩
     · have hjj:j=secsOf b:=by unfold secsOf at hj ⊢;omega
       subst hjj
       have HOK:Hid (wrs R to b (secsOf b)).2.ok:=Lib.hid ((wrs_fine HF.out to b (secsOf b)).ok (by omega))
       have HT5:Hid (toI+6 - 1=((to+5:Nat):Int)):=Lib.hid (by have:=HTI.out;omega)
       have HE:=he
       have hhd:=hd
       have hJ1:b.length≤secsOf b*64:=by omega
       have hJ2:secsOf b≤6:=hj6
       clear hj hsec hj6 hlt
       generalize hjj:secsOf b=J at HE hhd HOK hJ1 hJ2
       rw [hjj] at HZ
       clear hjj he hd
       go_wp2_with fail
       refine (rput_any none 0 0 [] num 4 wr (IsB.nil _) (by simp) (by omega) (by decide)).mono ?_;rintro e w2 ⟨a1,c1,rfl,hb1,ho1⟩
       have hi1:=isB_of_owns ho1 (by simp [leB_length])
       rw [List.nil_append] at hi1
       go_wp2_with fail
       refine (rput_any a1 _ c1 (leB num 4) b.length 2 w2 hi1 (by rw [leB_length];decide) (by omega) (by decide)).mono ?_;rintro e w3 ⟨a2,c2,rfl,hb2,ho2⟩
       have hl4:(leB num 4).length=4:=leB_length _ _
       rw [hl4]
       have HB3:Hid (Below wr.heap.size wr w3):=Lib.hid (hb1.trans (hb2.mono hb1.size))
       have hi3:Hid (IsB w3 a2 6 c2 (mk6 num b)):=Lib.hid (by
         have:=isB_of_owns ho2 (by rw [List.length_append,leB_length,leB_length])
         rw [hl4] at this
         exact this)
       clear hi1 ho1 ho2 hb1 hb2 hl4
       go_wp2_with fail
       refine (rsum_any num hn a b.length c b w3 (hbb.out.below HB3.out) (by omega)).mono ?_;rintro e w4 ⟨rfl,hb4⟩
       have HI4:=Lib.hid (hi3.out.below hb4)
       have HB4:Hid (Below wr.heap.size wr w4):=Lib.hid (HB3.out.trans (hb4.mono HB3.out.size))
       obtain ⟨sv,hsv⟩:∃ sv,sv=sumN num b:=⟨_,rfl⟩
       rw [← hsv]
       have hs32:sv<4294967296:=by rw [hsv];exact sumN_lt num b
       have HSV:=Lib.hid hsv
       have e3:IntKind.u64.wrap (sv:Int)=(sv:Int):=by rw [IntKind.wrap_u64];omega
       clear hb4 hsv HB3 hi3
       go_wp2_with fail
       refine (rput_any a2 6 c2 (mk6 num b) sv 4 w4 HI4.out (by rw [mk6_length];decide) (by omega) (by decide)).mono ?_;rintro e w5 ⟨a3,c3,rfl,hb5,ho5⟩
       have hi5:Hid (IsB w5 a3 10 c3 (mkB num b)):=Lib.hid (by
         have:=isB_of_owns ho5 (by rw [List.length_append,leB_length])
         rw [mk6_length,HSV.out] at this
         exact this)
       have hl6:(mk6 num b).length=6:=mk6_length _ _
       rw [hl6]
       have HB5:Hid (Below wr.heap.size wr w5):=Lib.hid (HB4.out.trans (hb5.mono HB4.out.size))
       clear hb5 ho5 hl6 HB4 HI4
       have hr5:=hhd.out.below HB5.out
       have ht5:=ht.out.trans (Touch.of_below HB5.out)
       go_wp2_with fail
       rw [HT5.out]
       refine (rwrite_any B rd rl rc (wrs R to b J).2 ((to+5:Nat):Int) a3 10 c3 (mkB num b) w5 hr5 hi5.out HOK.out).mono ?_;rintro e w6 ⟨rfl,ht6,hd6⟩
       have ht6':=ht5.trans ht6
       generalize ((wrs R to b J).2.write ((to+5:Nat):Int) (mkB num b))=W at hd6 HZ ⊢
       have hneg:¬ (wrs R to b J).1≠0:=fun h=>h HE.out
       by_cases he1:W.1=0
       · have hd1:(W.1 != 0)=false:=by rw [he1];rfl
         have HRR:Hid (Z=(0,W.2)):=Lib.hid (by rw [HZ.out,if_neg hneg,if_neg (by rw [he1];simp)])
         clear he1 hneg
         go_wp2_with fail
         go_ret
         rw [HRR.out]
         exact ⟨rfl,ht6',hd6⟩
       · have hd1:(W.1 != 0)=true:=by rw [bne_iff_ne];exact he1
         have HRR:Hid (Z=(8,W.2)):=Lib.hid (by rw [HZ.out,if_neg hneg,if_pos he1])
         clear he1 hneg
         go_wp2_with fail
         go_ret
         rw [HRR.out]
         exact ⟨rfl,ht6',hd6⟩
theorem rget19_any (B rd rl rc:Nat) (R:Dsk) (p:Int) (w:World) (h:IsRef w B rd rl rc R) :
   Calls Tryz.prog 60 #[.pointer (some ⟨rd,0,none⟩),.int .i64 p] w fun e w' => ∃ a m c,e=.returned (.tuple #[.int .u32 (R.get p).1,.slice a m c,.int .i64 (R.get p).2.2])∧Below w.heap.size w w'∧IsB w' a m c (R.get p).2.1:=by
 have hm:=h.most
 have hp:=h.pos
 by_cases hr:p<0∨(R.secs.length:Int) - 12<p
 · have hpl:R.get p=(0,[],1):=if_pos hr
   rw [hpl]
   have d2:decide (¬ (p<0∨(R.secs.length:Int) - 12<p))=false:=decide_eq_false (fun h=>h hr)
   clear hpl hr
   go_enter Tryz.func60,Tryz.ntmps60
   go_wp2_with fail
   refine (rthere_any B rd rl rc R p w h).mono ?_;rintro e w' ⟨rfl,rfl⟩;rw [d2]
   go_wp2_with fail
   go_ret3
   exact ⟨none,0,0,rfl,Below.refl _ _,IsB.nil _⟩
 have d2:decide (¬ (p<0∨(R.secs.length:Int) - 12<p))=true:=decide_eq_true hr
 obtain ⟨q,rfl⟩:∃ q:Nat,p=(q:Int):=⟨p.toNat,by omega⟩
 have hq:q+12≤R.secs.length:=by omega
 have hpl:R.get (q:Int)=((newestW R q).1.1,(newestW R q).1.2,0):=if_neg hr
 rw [hpl]
 have hsh:=rnewest_short h q hq
 have hlt:=rnewest_lt h q hq
 have HNEW:Hid (∀ w,IsRef w B rd rl rc R→Calls Tryz.prog 137 #[.pointer (some ⟨rd,0,none⟩),.int .i64 (q:Int)] w fun e w' => ∃ a m c,e=.returned (.tuple #[.int .i64 (rwhich R q),.int .u32 (newestW R q).1.1,.slice a m c])∧Below w.heap.size w w'∧IsB w' a m c (newestW R q).1.2):=Lib.hid (fun w h=>rnewest_any B rd rl rc R q (q:Int) w h rfl hq)
 have hz0:(newestW R q).1.1=0→(newestW R q).1.2=[]:=fun h0=>by
   unfold newestW at h0 ⊢
   split at h0
   · rename_i h1
     rw [if_pos h1]
     exact congrArg Prod.snd (place_zero R (q+6) h0)
   · rename_i h1
     rw [if_neg h1]
     split at h0
     · rename_i h2
       rw [if_pos h2]
       exact congrArg Prod.snd (place_zero R q h0)
     · rename_i h2
       rw [if_neg h2]
 obtain ⟨wh,hwh⟩:∃ wh,wh=rwhich R q:=⟨_,rfl⟩
 rw [← hwh] at HNEW
 generalize newestW R q=x at HNEW hsh hlt hz0 ⊢
 obtain ⟨⟨xn,xb⟩,to⟩:=x
 dsimp only at HNEW hsh hlt hz0 ⊢
 have HR:=Lib.hid h
 clear hpl hr hp hwh h
 by_cases h0:xn=0
 · have HZ:=Lib.hid (hz0 h0)
   subst h0
   clear hz0
   go_enter Tryz.func60,Tryz.ntmps60
   go_wp2_with fail
   refine (rthere_any B rd rl rc R _ w HR.out).mono ?_;rintro e w' ⟨rfl,rfl⟩;rw [d2]
   go_wp2_with fail
   refine (HNEW.out w HR.out).mono ?_;rintro e w1 ⟨xa,xm,xc,rfl,hb1,hi1⟩
   go_wp2_with fail
   go_ret3
   rw [HZ.out]
   exact ⟨none,0,0,rfl,hb1,IsB.nil _⟩
 · have d3:((xn:Int) == 0)=false:=by rw [beq_eq_false_iff_ne];omega
   clear hz0 h0
   go_enter Tryz.func60,Tryz.ntmps60
   go_wp2_with fail
   refine (rthere_any B rd rl rc R _ w HR.out).mono ?_;rintro e w' ⟨rfl,rfl⟩;rw [d2]
   go_wp2_with fail
   refine (HNEW.out w HR.out).mono ?_;rintro e w1 ⟨xa,xm,xc,rfl,hb1,hi1⟩
   obtain rfl:=hi1.1
   have hat:=hi1.at
   have hl1:Hid ((bcells xb).length=xb.length*1):=Lib.hid (by rw [bcells_length];omega)
   have HB1:=Lib.hid hb1
   have HS1:Hid (w.heap.size≤w1.heap.size):=Lib.hid hb1.size
   clear hi1 hb1
   go_wp2_with (first
     | (at_builtin;refine wpList_append_any rowU8 rfl (.const (.slice none 0 0)) (.tmp 24) rfl w.heap.size (.slice none 0 0) 0 [] rfl (World.ownsRow_nil _ _ _ _) xa xb.length xc (bcells xb) rfl hl1.out hat (bcells_one xb) (by unfold maxLen;omega) (by omega) HS1.out ?_;intro b2 c2 w2 hown2 hg2 hat2;simp only [Nat.zero_add,List.nil_append] at hown2 hat2)
     | fail)
   have HB2:Hid (Below w.heap.size w w2):=Lib.hid (HB1.out.grown hg2 HS1.out (by simp [Value.ownBlock]))
   have HI2:=Lib.hid (isB_of_owns hown2 rfl)
   clear hown2 hg2 hat2 hat hl1
   go_wp2_with fail
   go_ret3
   exact ⟨b2,_,c2,rfl,HB2.out,HI2.out⟩
theorem Same.secAt {D R:Dsk} (h:Same D R) (i:Nat):secAt R i=secAt D i:=by unfold Go.Proofs.YtgbikngicidbkaaGreatDoor.secAt;rw [h.1]
theorem Same.newest {D R:Dsk} (h:Same D R) (p:Nat):newestW R p=newestW D p:=newestW_same p fun i _=>h.secAt (p+i)
theorem Same.wrs {D R:Dsk} (h:Same D R) (to:Nat) (b:List UInt8) (j:Nat):(wrs R to b j).1=(wrs D to b j).1∧Same (wrs D to b j).2 (wrs R to b j).2:=by
 induction j with
 | zero=>exact ⟨rfl,h⟩
 | succ j ih =>
   have e1:Go.Proofs.YtgbikngicidbkaaGreatDoor.wrs R to b (j+1)=if (Go.Proofs.YtgbikngicidbkaaGreatDoor.wrs R to b j).1≠0 then Go.Proofs.YtgbikngicidbkaaGreatDoor.wrs R to b j else (Go.Proofs.YtgbikngicidbkaaGreatDoor.wrs R to b j).2.write ((to+j:Nat):Int) (chunk b j):=rfl
   have e2:Go.Proofs.YtgbikngicidbkaaGreatDoor.wrs D to b (j+1)=if (Go.Proofs.YtgbikngicidbkaaGreatDoor.wrs D to b j).1≠0 then Go.Proofs.YtgbikngicidbkaaGreatDoor.wrs D to b j else (Go.Proofs.YtgbikngicidbkaaGreatDoor.wrs D to b j).2.write ((to+j:Nat):Int) (chunk b j):=rfl
   rw [e1,e2,ih.1]
   split
   · exact ih
   · exact ih.2.write _ _
theorem Same.put {D R:Dsk} (h:Same D R) (p:Int) (num:Nat) (b:List UInt8):(R.put p num b).1=(D.put p num b).1∧Same (D.put p num b).2 (R.put p num b).2:=by
 have hw:=h.wrs (newestW D p.toNat).2 b (secsOf b)
 have hw2:=hw.2.write ((newestW D p.toNat).2+5:Nat) (mkB num b)
 unfold Dsk.put
 rw [h.newest,h.1,hw.1,hw2.1]
 split
 · exact ⟨rfl,h⟩
 · split
   · exact ⟨rfl,h⟩
   · split
     · exact ⟨rfl,h⟩
     · split
       · exact ⟨rfl,hw.2⟩
       · split
         · exact ⟨rfl,hw2.2⟩
         · exact ⟨rfl,hw2.2⟩
theorem Same.get {D R:Dsk} (h:Same D R) (p:Int):R.get p=D.get p:=by
 unfold Dsk.get
 rw [h.newest,h.1]
theorem Dsk.fine.put {D:Dsk} {k:Int} (h:D.fine k) (p:Int) (num:Nat) (b:List UInt8):(D.put p num b).2.fine (k+7):=by
 unfold Dsk.put
 split
 · exact h.mono (by omega)
 · split
   · exact h.mono (by omega)
   · split
     · exact h.mono (by omega)
     · have hs:secsOf b≤6:=by unfold secsOf;omega
       have h1:=wrs_fine h (newestW D p.toNat).2 b (secsOf b)
       split
       · exact h1.mono (by omega)
       · have h2:=h1.write ((newestW D p.toNat).2+5:Nat) (mkB num b)
         split
         · exact h2.mono (by omega)
         · exact h2.mono (by omega)
theorem Same.fine {D R:Dsk} (h:Same D R) {k:Int} (hf:D.fine k):R.fine k:=⟨by rw [h.2.2.1];exact hf.1,by rw [h.2.2.1];exact hf.2.1,by have:=hf.2.2;rcases h.2.2.2 with e | e <;> omega⟩
end Go.Proofs.YtgbikngicidbkaaGreatDoor
