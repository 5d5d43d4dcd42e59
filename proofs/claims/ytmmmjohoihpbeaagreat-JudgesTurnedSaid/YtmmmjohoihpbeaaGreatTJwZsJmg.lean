/- The package rises: step;conditions: those typed. -/
import Derived.Test.YtmmmjohoihpbeaaGreatTJwZJwZf
import Derived.Test.YtmmmjohoihpbeaaGreatTJmcJmdJmeJmf
namespace Go.Proofs.YtmmmjohoihpbeaaGreat
section
open Go.RowKit Go.Shelf
set_option linter.unusedVariables false
set_option linter.unusedSimpArgs false
attribute [local go_sem] Oper.semAt_some
theorem setsL_iff:∀ (m:Nat) (ah:List Int) (f it:Nat) (l:List Int),l ∈ setsL m ah f it↔∃ t,l=ah ++ t∧t.length=m∧t.Pairwise (· < ·)∧∀ z ∈ t,(f:Int)≤z∧z<it
 | 0,ah,f,it,l=>by
   show l ∈ [ah]↔_
   rw [List.mem_singleton]
   constructor
   · rintro rfl;exact ⟨[],by simp,rfl,List.Pairwise.nil,fun z hz=>by cases hz⟩
   · rintro ⟨t,rfl,ht,_⟩;rw [List.eq_nil_of_length_eq_zero ht,List.append_nil]
 | m+1,ah,f,it,l=>by
   show l ∈ (List.range' f (it - m - f)).flatMap _↔_
   rw [List.mem_flatMap]
   constructor
   · rintro ⟨k,hk,h⟩
     rw [List.mem_range'_1] at hk
     obtain ⟨t,rfl,h1,h2,h3⟩:=(setsL_iff m _ _ _ _).1 h
     refine ⟨(k:Int) :: t,by simp,by simp [h1],List.pairwise_cons.2 ⟨fun z hz=>by have:=(h3 z hz).1;omega,h2⟩,fun z hz => ?_⟩
     rcases List.mem_cons.1 hz with rfl | hz
     · omega
     · have:=h3 z hz;omega
   · rintro ⟨t,rfl,h1,h2,h3⟩
     cases t with
     | nil=>cases h1
     | cons z t =>
       obtain ⟨h4,h5⟩:=List.pairwise_cons.1 h2
       have hz:=h3 z List.mem_cons_self
       obtain ⟨k,rfl⟩:=Int.eq_ofNat_of_zero_le (show 0≤z by omega)
       have hlen:t.length=m:=by simpa using h1
       have key:∀ (t:List Int) (k:Nat),t.Pairwise (· < ·)→(∀ y ∈ t,(k:Int)<y)→(∀ y ∈ t,y<it)→k<it→k+t.length<it:=by
         intro t
         induction t with
         | nil=>intro k _ _ _ h;simpa using h
         | cons y t ih =>
           intro k hp hk hi hki
           obtain ⟨a1,a2⟩:=List.pairwise_cons.1 hp
           have b1:=hk y List.mem_cons_self
           have b2:=hi y List.mem_cons_self
           obtain ⟨q,rfl⟩:=Int.eq_ofNat_of_zero_le (show 0≤y by omega)
           have:=ih q a2 a1 (fun z hz=>hi z (List.mem_cons_of_mem _ hz)) (by omega)
           rw [List.length_cons];omega
       have hkt:=key t k h5 h4 (fun y hy=>(h3 y (List.mem_cons_of_mem _ hy)).2) (by omega)
       refine ⟨k,by rw [List.mem_range'_1];omega,(setsL_iff m _ _ _ _).2 ⟨t,by simp,hlen,h5,fun y hy => ?_⟩⟩
       have:=h4 y hy
       have:=(h3 y (List.mem_cons_of_mem _ hy)).2
       omega
theorem setsL_ris {m it:Nat} {l:List Int}:l ∈ setsL m [] 0 it↔l.length=m∧RisL l it:=by
 rw [setsL_iff]
 constructor
 · rintro ⟨t,rfl,h1,h2,h3⟩;exact ⟨by simpa using h1,by simpa using h2,fun z hz=>by simpa using h3 z (by simpa using hz)⟩
 · rintro ⟨h1,h2,h3⟩;exact ⟨l,by simp,h1,h2,fun z hz=>by simpa using h3 z hz⟩
def addU (p set:List Int) (b:Int) (j:Nat):List Int:=(List.range p.length).map fun k:Nat=>p.getD k 0+if (k:Int) ∈ set.take j then b else 0
theorem addU_length (p set:List Int) (b:Int) (j:Nat):(addU p set b j).length=p.length:=by simp [addU]
theorem addU_zero (p set:List Int) (b:Int):addU p set b 0=p:=by
 apply List.ext_getElem
 · simp [addU]
 · intro i h1 h2;simp [addU,h2]
theorem addU_at (p set:List Int) (b:Int) (j k:Nat) (h:k<p.length):(addU p set b j)[k]'(by rw [addU_length];exact h)=p[k]+if (k:Int) ∈ set.take j then b else 0:=by
 simp [addU,h]
theorem addU_getD (p set:List Int) (b:Int) (j k:Nat) (h:k<p.length):(addU p set b j).getD k 0=p.getD k 0+if (k:Int) ∈ set.take j then b else 0:=by
 simp [addU,h]
theorem addU_set {p set:List Int} {b:Int} {j k:Nat} (hs:set.Nodup) (hj:j<set.length) (hk:set[j]=(k:Int)) (h:k<p.length):(addU p set b j).set k (p[k]+b)=addU p set b (j+1)∧(addU p set b j)[k]'(by rw [addU_length];exact h)=p[k]:=by
 have hnot:¬ (k:Int) ∈ set.take j:=fun hm=>by
   obtain ⟨i,hi,e⟩:=List.getElem_of_mem hm
   rw [List.getElem_take] at e
   have hij:i<j:=by rw [List.length_take] at hi;omega
   have:=(List.getElem_inj hs).1 (e.trans hk.symm)
   omega
 refine ⟨?_,by rw [addU_at _ _ _ _ _ h,if_neg hnot,Int.add_zero]⟩
 apply List.ext_getElem
 · simp [addU]
 · intro i h1 h2
   have hi:i<p.length:=by rwa [addU_length] at h2
   rw [List.getElem_set,addU_at p set b (j+1) i hi,List.take_succ_eq_append_getElem hj]
   by_cases e:k=i
   · subst e;rw [if_pos rfl,if_pos (by rw [hk];simp)]
   · rw [if_neg e,addU_at _ _ _ _ _ hi]
     have:((i:Int) ∈ set.take j ++ [set[j]])↔(i:Int) ∈ set.take j:=by
       rw [List.mem_append,List.mem_singleton,hk]
       constructor
       · rintro (h | h)
         · exact h
         · exact absurd (by omega) e
       · exact .inl
     simp only [this]
def StepP (b:List (List Int)) (p:List Int) (L:List (List Int)) (mu:List Int) (out:List Int) (is:Bool):Prop :=
 if is then ∃ l z,FewP L p.length mu l true∧z ∈ farU l b p L mu mu.length∧(∀ y ∈ farU l b p L mu mu.length,z≤y)∧out=addU p l z l.length
 else FewP L p.length mu [] false∧out=p
theorem farRow_some {set bid p wl:List Int} (h:(wl.all fun k=>decide (k ∈ set))=true):1≤(farRow set bid p wl).length:=by
 unfold farRow
 rw [if_neg]
 · unfold farG;simp
 · intro e
   obtain ⟨z,hz,hn⟩:=List.any_eq_true.1 e
   have:=(List.all_eq_true.1 h) z hz
   rw [this] at hn;cases hn
theorem farU_some {set:List Int} {b:List (List Int)} {p:List Int} {L:List (List Int)} {mu:List Int} (h:0<wthL L mu set):1≤(farU set b p L mu mu.length).length:=by
 unfold wthL at h
 obtain ⟨z,hz⟩:=List.exists_mem_of_length_pos h
 obtain ⟨h1,h2⟩:=List.mem_filter.1 hz
 have h3:=farRow_some (bid:=b.getD z.toNat []) (p:=p) h2
 obtain ⟨y,hy⟩:=List.exists_mem_of_length_pos h3
 refine List.length_pos_of_mem (a:=y) ?_
 unfold farU
 rw [List.mem_flatMap,List.take_length]
 exact ⟨z,h1,hy⟩
theorem getD_bd {l:List Int} {a b:Int} (h:∀ z ∈ l,a≤z∧z≤b) (h0:a≤0∧0≤b) (k:Nat):a≤l.getD k 0∧l.getD k 0≤b:=by
 by_cases hk:k<l.length
 · exact h _ (getD_mem hk)
 · rw [List.getD_eq_getElem?_getD,List.getElem?_eq_none (by omega)];exact h0
theorem farU_bd {set:List Int} {b:List (List Int)} {p:List Int} {L:List (List Int)} {mu:List Int} {j:Nat} (hb:∀ l ∈ b,∀ z ∈ l,0≤z∧z≤1000000) (hp:∀ z ∈ p,0≤z∧z≤2000000):∀ z ∈ farU set b p L mu j,-4000000≤z∧z≤4000000:=by
 intro z hz
 unfold farU at hz
 obtain ⟨i,_,hz⟩:=List.mem_flatMap.1 hz
 have hbi:∀ z ∈ b.getD i.toNat [],0≤z∧z≤1000000:=by
   by_cases hi:i.toNat<b.length
   · exact hb _ (getD_mem hi)
   · rw [List.getD_eq_getElem?_getD,List.getElem?_eq_none (by omega)];intro z hz;cases hz
 have hg:∀ k,-2000000≤gainI (b.getD i.toNat []) p k∧gainI (b.getD i.toNat []) p k≤1000000:=fun k=>by
   have h1:=getD_bd hbi (by omega) k
   have h2:=getD_bd hp (by omega) k
   unfold gainI;omega
 unfold farRow at hz
 split at hz
 · cases hz
 · unfold farG at hz
   have h0:=hg ((L.getD i.toNat []).getD 0 0).toNat
   rcases List.mem_cons.1 hz with rfl | hz
   · omega
   · obtain ⟨k,_,rfl⟩:=List.mem_map.1 hz
     have:=hg k
     omega
theorem owns_iset {w:World} {base e g n c:Nat} {L:List Int} (h:w.ownsRow base e 1 (.slice (some ⟨g,0,none⟩) n c) n (icells L)) (j:Nat) (hj:j<L.length) (z:Int) :
   (w.setCell ⟨g,j,none⟩ (.int .i64 z)).ownsRow base e 1 (.slice (some ⟨g,0,none⟩) n c) n (icells (L.set j z))∧w.cell? ⟨g,j,none⟩=some (.int .i64 L[j])∧w.frozen? ⟨g,j,none⟩=false:=by
 have hl:=h.1
 have hc:=owns_icell h j hj
 rcases h.2 with ⟨hv,h0⟩ | ⟨g',cap,cur,hv,hb,hg,hnc,hcm,hcs,htk⟩
 · cases hv
 · cases hv
   refine ⟨⟨by simpa [icells] using hl,.inr ⟨g,c,_,rfl,hb,heap_setCell_same w g j _ _ _ hg,hnc,hcm,by simpa using hcs,?_⟩⟩,hc,blk_free hg⟩
   rw [Array.toList_setIfInBounds,List.take_set,htk]
   simp [icells,List.map_set]
set_option maxRecDepth 100000 in
set_option maxHeartbeats 8000000 in
theorem rstep_any (S:Nat) (x:MkA) (m:MkC) (p:List Int) (L:List (List Int)) (mu:List Int) (w:World) (h:StV w S x m p L mu) (hg:GOk L p.length) (hr:RisL mu L.length) (hf:FarH m.b p L mu) (hpo:PrOk p) :
   Calls Tryz.prog 84 #[.pointer (some ⟨S,0,none⟩)] w fun e w' => ∃ a c out is,e=.returned (.tuple #[.slice a p.length c,.bool is])∧Below w.heap.size w w'∧IsI w' a p.length c out∧StepP m.b p L mu out is∧∀ k off,a=some ⟨k,off,none⟩→w.heap.size≤k:=by
 obtain ⟨pa,pc,B,ma,mc,s1,s2,s3,s4⟩:=h.c
 have hp8:=hpo.l8
 have hn8:=hg.hn
 have hl:=h.l
 have hb1:=(mktB_bd h.mv.ok).2.1
 have k3:w.cell? ⟨S,3,none⟩=some (.slice pa p.length pc):=by rw [cell_of_block s1];obtain ⟨ra,rn,rc,ba,bn,bc,bv,oa,on,oc⟩:=x;rfl
 have k4:w.cell? ⟨S,4,none⟩=some (.slice (some ⟨B,0,none⟩) m.b.length m.b.length):=by rw [cell_of_block s1];obtain ⟨ra,rn,rc,ba,bn,bc,bv,oa,on,oc⟩:=x;rfl
 have k5:w.cell? ⟨S,5,none⟩=some (.slice ma mu.length mc):=by rw [cell_of_block s1];obtain ⟨ra,rn,rc,ba,bn,bc,bv,oa,on,oc⟩:=x;rfl
 have HV:=Lib.hid h
 have HP:=Lib.hid s2
 have HW:=Lib.hid (show IsII w (some ⟨B,0,none⟩) m.b.length m.b.length L by rw [← hl];exact s3.isII L.length (Nat.le_refl _) (by unfold maxLen;omega))
 have HM:=Lib.hid s4
 have HG:=Lib.hid hg
 have HR:=Lib.hid hr
 have HF:=Lib.hid hf
 have HPO:=Lib.hid hpo
 have HL:=Lib.hid hl
 clear h s1 s2 s3 s4 hg hr hf hpo hl
 go_enter Tryz.func84,Tryz.ntmps84
 go_wp2_with fail
 refine (iclone_any pa p.length pc p w HP.out (by omega)).mono ?_;rintro e w1 ⟨a1,c1,rfl,hb1',ho1⟩
 obtain ⟨r1,r2,r3⟩:=owns_caps ho1
 have HB1:=Lib.hid hb1'
 have HO1:=Lib.hid ho1
 have l3:=cell_later hb1' k3
 have l4:=cell_later hb1' k4
 have l5:=cell_later hb1' k5
 clear hb1' ho1 k3 k4 k5
 go_wp2_with fail
 refine (iclip_any a1 p.length c1 w1 r1 r2 r3).mono ?_;rintro e w2 ⟨rfl,rfl⟩
 have HFEW:Hid (∀ w',Below w1.heap.size w1 w'→Calls Tryz.prog 99 #[.slice (some ⟨B,0,none⟩) m.b.length m.b.length,.int .i64 p.length,.slice ma mu.length mc] w' (FewQ w' L p.length mu)):=Lib.hid (fun w' hw' =>
   few_any _ _ _ _ _ _ L p.length mu w' ((HW.out.below HB1.out).below hw') HG.out ((HM.out.below HB1.out).below hw') HR.out (by rw [HL.out];exact hb1))
 go_wp2_with fail
 go_region_with ((go_at_call 99;refine (HFEW.out _ (by first | exact (Below.refl _ _).drew | exact Below.refl _ _)).mono ?_;rintro e w3 ⟨x3,c3,l,is,rfl,hb3,hi3,hq3,hx3⟩))
 all_goals
   simp only [Act.put,List.getElem_toArray,List.getElem_cons_succ,List.getElem_cons_zero,List.setIfInBounds_toArray,List.set_cons_zero,List.set_cons_succ]
   have hb3':Below w1.heap.size w1 w3:=by first | exact hb3 | exact (Below.refl _ _).drew.trans hb3
   have HX3:Hid (∀ (k off:Nat),x3=some ⟨k,off,none⟩→w1.heap.size≤k):=Lib.hid hx3
   have HB3:=Lib.hid (HB1.out.trans (hb3'.mono HB1.out.size))
   have HO3:=Lib.hid (owns_below HO1.out hb3')
   have HI3:=Lib.hid hi3
   have HV3:=Lib.hid (HV.out.below HB3.out)
   have HQ3:=Lib.hid hq3
   have hw13:=hb3'.size
   clear hb3 hb3' hx3 hi3 hq3 l3 l4 l5 HFEW
   cases is with
   | false =>
     go_wp2_with fail
     go_ret2
     exact ⟨a1,p.length,p,false,rfl,HB3.out,(isI_of_owns HO3.out rfl).clip,by have:=HQ3.out;unfold FewP at this;unfold StepP FewP;obtain ⟨rfl,h⟩:=this;exact ⟨⟨rfl,h⟩,rfl⟩,fun k off e=>by subst e;exact owns_base HO3.out k rfl⟩
   | true =>
     have HRL:Hid (RisL l p.length∧1≤(farU l m.b p L mu mu.length).length):=Lib.hid (by
       obtain ⟨m',h1,h2,h3,h4⟩:=HQ3.out
       exact ⟨(setsL_ris.1 h2).2,farU_some (by omega)⟩)
     go_wp2_with fail
     refine (far_any S x m p L mu x3 l.length c3 l w3 HV3.out HI3.out HF.out HPO.out HRL.out.2).mono ?_;rintro e w4 ⟨z,rfl,hb4,hz1,hz2⟩
     have hzb:-4000000≤z∧z≤4000000:=farU_bd (fun l hl=>(bidB_bd ((mktB_bd HV.out.mv.ok).2.2.2.2 l hl)).2.2) HPO.out.b z hz1
     have HZ:=Lib.hid (And.intro hz1 hz2)
     have HB4:=Lib.hid (HB3.out.trans (hb4.mono HB3.out.size))
     have HI4:=Lib.hid (HI3.out.below hb4)
     have HO4:=Lib.hid (owns_below HO3.out hb4)
     have hw34:=hb4.size
     clear hb4 hz1 hz2
     obtain ⟨g,rfl⟩:∃ g,a1=some ⟨g,0,none⟩:=by
       have hpl:=HPO.out.l1
       rcases HO4.out.2 with ⟨_,h0⟩ | ⟨g,cap,cur,hv,_⟩
       · omega
       · cases hv;exact ⟨g,rfl⟩
     have hg1:w.heap.size≤g∧g<w1.heap.size:=⟨owns_base HO1.out g rfl,by obtain ⟨cur,hc⟩:=owns_block HO1.out (k:=g) rfl;exact lt_of_heap hc⟩
     have hll:=HI4.out.len
     go_wp2_with fail
     go_loopw [43] (fun i wr => ∃ j:Nat,j≤l.length∧i=.int .i64 (j:Int)∧Hid (wr.ownsRow w.heap.size 3 1 (.slice (some ⟨g,0,none⟩) p.length c1) p.length (icells (addU p l z j))∧Touch (fun k=>k=g) w4 wr)) (fun i _=>l.length - (intOf i).toNat)
     case atStart=>exact ⟨0,Nat.zero_le _,rfl,Lib.hid ⟨by rw [addU_zero];exact HO4.out,Touch.refl _ _⟩⟩
     case round =>
       obtain ⟨j,hj,rfl,HQ⟩:=hrel
       by_cases hlt:j<l.length
       · obtain ⟨b5,off5,e5,hb5,hc5⟩:=HI4.out.at j hlt
         subst e5
         have hne5:b5≠g:=fun e=>by have:=HX3.out b5 off5 rfl;omega
         have k5:=HQ.out.2.cell hc5 hne5
         obtain ⟨q1,q2⟩:=HRL.out.1.at j hlt
         obtain ⟨k,ek⟩:=Int.eq_ofNat_of_zero_le q1
         have hkp:k<p.length:=by omega
         obtain ⟨hs1,hs2⟩:=addU_set (p:=p) (b:=z) HRL.out.1.nodup hlt ek hkp
         obtain ⟨o1,o2,o3⟩:=owns_iset HQ.out.1 k (by rw [addU_length];exact hkp) (p[k]+z)
         rw [hs2] at o2
         rw [hs1] at o1
         rw [ek] at k5
         have hpb:=HPO.out.b _ (List.getElem_mem hkp)
         generalize p[k]=pk at o1 o2 hpb
         have HQ2:Hid ((wr.setCell ⟨g,k,none⟩ (.int .i64 (pk+z))).ownsRow w.heap.size 3 1 (.slice (some ⟨g,0,none⟩) p.length c1) p.length (icells (addU p l z (j+1)))∧Touch (fun k=>k=g) w4 (wr.setCell ⟨g,k,none⟩ (.int .i64 (pk+z)))):=Lib.hid ⟨o1,HQ.out.2.setCell _ _ (.inl rfl)⟩
         clear hc5 o1 hs1 hs2 ek q1 q2
         go_wp2_with fail
         go_roundw
         case rel=>exact ⟨j+1,by omega,by go_num,HQ2⟩
         case measure=>simp [intOf];omega
       · have hjj:j=l.length:=by omega
         subst hjj
         have HE:Hid (Below w.heap.size w wr):=Lib.hid (HB4.out.trans (HQ.out.2.below HB4.out.size (fun k hk e=>by omega)))
         go_wp2_with fail
         go_ret2
         exact ⟨some ⟨g,0,none⟩,p.length,addU p l z l.length,true,rfl,HE.out,(by have h9:=isI_of_owns HQ.out.1 (by rw [addU_length]);simpa only [addU_length] using h9.clip),⟨l,z,HQ3.out,HZ.out.1,HZ.out.2,rfl⟩,fun k off e=>by cases e;exact hg1.1⟩
end
section
open Go.RowKit
set_option linter.unusedVariables false
namespace JM
theorem cnt_true (n:Nat):cnt n (fun _=>True)=n:=by
 induction n with
 | zero=>rfl
 | succ n ih=>rw [cnt_succ,ih,if_pos trivial]
theorem cnt_ris {l:List Int} {K:Nat} (h:RisL l K):cnt K (fun k=>(k:Int) ∈ l)=l.length:=by
 have h1:cnt K (fun k=>(k:Int) ∈ l)≤cnt l.length (fun _=>True):=cnt_inj (fun k i=>l[i]?=some (k:Int)) (fun k hk hm=>by
   obtain ⟨i,hi,e⟩:=List.getElem_of_mem hm
   exact ⟨i,hi,trivial,by rw [List.getElem?_eq_getElem hi,e]⟩) (fun k k' i _ _ _ _ a b=>by rw [a] at b;have:=Option.some.inj b;omega)
 have h2:cnt l.length (fun _=>True)≤cnt K (fun k=>(k:Int) ∈ l):=cnt_inj (fun i k=>l[i]?=some (k:Int)) (fun i hi _=>by
   obtain ⟨a,b⟩:=h.at i hi
   obtain ⟨k,e⟩:=Int.eq_ofNat_of_zero_le a
   exact ⟨k,by omega,by rw [← e];exact List.getElem_mem hi,by rw [List.getElem?_eq_getElem hi,e]⟩) (fun i j k hi hj _ _ a b=>by
   rw [List.getElem?_eq_getElem hi] at a
   rw [List.getElem?_eq_getElem hj] at b
   exact (List.getElem_inj h.nodup).1 ((Option.some.inj a).trans (Option.some.inj b).symm))
 rw [cnt_true] at h1 h2
 omega
theorem RisL.filter {l:List Int} {n:Int} (h:RisL l n) (f:Int→Bool):RisL (l.filter f) n:=⟨List.Pairwise.filter _ h.1,fun z hz=>h.2 z (List.mem_filter.1 hz).1⟩
theorem wthL_cnt {L:List (List Int)} {mu l:List Int} {n:Nat} (h:RisL mu n):wthL L mu l=cnt n (fun i=>(i:Int) ∈ mu∧wthB L l i=true):=by
 unfold wthL
 rw [← cnt_ris (RisL.filter h (wthB L l))]
 exact cnt_congr fun i _=>List.mem_filter
theorem ris_of (f:Nat→Bool) (K:Nat):RisL (((List.range K).filter f).map Int.ofNat) K:=by
 refine ⟨List.Pairwise.map _ (fun a b (hab:a<b)=>by show (a:Int)<b;omega) (List.Pairwise.filter _ List.pairwise_lt_range),fun z hz => ?_⟩
 obtain ⟨k,hk,rfl⟩:=List.mem_map.1 hz
 have:=List.mem_range.1 (List.mem_filter.1 hk).1
 show (0:Int)≤(k:Int)∧(k:Int)<K
 omega
theorem mem_of {f:Nat→Bool} {K k:Nat}:(k:Int) ∈ ((List.range K).filter f).map Int.ofNat↔k<K∧f k=true:=by
 rw [List.mem_map]
 constructor
 · rintro ⟨j,hj,e⟩
   have:j=k:=by have h:(j:Int)=k:=e;omega
   subst this
   exact ⟨List.mem_range.1 (List.mem_filter.1 hj).1,(List.mem_filter.1 hj).2⟩
 · rintro ⟨h1,h2⟩
   exact ⟨k,List.mem_filter.2 ⟨List.mem_range.2 h1,h2⟩,rfl⟩
theorem dmF_eq (bid p:List Int) (K:Nat):dmF (gnK bid p K)=(((List.range K).filter fun k=>gainI bid p k == mx K (gainI bid p)).map Int.ofNat,mx K (gainI bid p)):=by
 induction K with
 | zero=>rfl
 | succ K ih =>
   rw [gnK_succ,dmF_snoc,ih]
   unfold dmS
   have hge:∀ k,k<K→gainI bid p k≤mx K (gainI bid p):=fun k hk=>mx_ge (f:=gainI bid p) k hk
   show (if mx K (gainI bid p)<gainI bid p K then _ else _)=_
   simp only [mx]
   rw [List.range_succ,List.filter_append,List.map_append]
   by_cases h1:mx K (gainI bid p)<gainI bid p K
   · rw [if_pos h1]
     have e:max (mx K (gainI bid p)) (gainI bid p K)=gainI bid p K:=by omega
     rw [e]
     have e2:(List.range K).filter (fun k=>gainI bid p k == gainI bid p K)=[]:=by
       rw [List.filter_eq_nil_iff]
       intro k hk
       have:=hge k (List.mem_range.1 hk)
       simp only [beq_iff_eq];omega
     rw [e2]
     simp [gainI]
   · rw [if_neg h1]
     have e:max (mx K (gainI bid p)) (gainI bid p K)=mx K (gainI bid p):=by omega
     rw [e]
     by_cases h2:gainI bid p K=mx K (gainI bid p)
     · have h2':bid.getD K 0 - p.getD K 0=mx K (gainI bid p):=h2
       rw [if_pos h2']
       simp [h2]
     · have h2':¬ bid.getD K 0 - p.getD K 0=mx K (gainI bid p):=h2
       rw [if_neg h2']
       simp [h2]
section
variable {r:List Int} {b:List (List Int)} {p:List Int}
structure PrM (r:List Int) (b:List (List Int)) (p:List Int):Prop where
 mkt:MkOk r b
 pl:p.length=r.length
 pos:∀ k,k<r.length→0≤ov r p k
theorem PrM.ut (h:PrM r b p) (i:Nat) (hb:b.getD i []≠[]):mx r.length (gainI (b.getD i []) p)=ut r.length (gn r b) (ov r p) i:=by
 unfold JM.ut
 congr 1
 funext k
 rw [gn_ov hb];rfl
theorem PrM.ut0 (h:PrM r b p) (i:Nat) (hb:b.getD i []=[]):JM.ut r.length (gn r b) (ov r p) i=0 :=
 mx_eq (Int.le_refl _) (fun k hk=>by have:=h.pos k hk;rw [gn_emp hb];omega) (.inl rfl)
abbrev wantL (b:List (List Int)) (p:List Int):List (List Int):=mixU (wantsD b p) (noneD b p) b.length
abbrev mustL (b:List (List Int)) (p:List Int):List Int:=mustU (noneD b p) b.length
theorem noneD_get (i:Nat) (hi:i<b.length):(noneD b p).getD i false=((dmF (gnK b[i] p b[i].length)).2 == 0):=by
 rw [getD_get (by simpa [noneD] using hi)];simp [noneD]
theorem wantsD_get (i:Nat) (hi:i<b.length):(wantsD b p).getD i []=(dmF (gnK b[i] p b[i].length)).1:=by
 rw [getD_get (by simpa [wantsD] using hi)];simp [wantsD]
theorem PrM.none (h:PrM r b p) (i:Nat) (hi:i<b.length):(noneD b p).getD i false=true↔¬ mst r.length (gn r b) (ov r p) i:=by
 rw [noneD_get i hi,dmF_eq,beq_iff_eq]
 show mx b[i].length (gainI b[i] p)=0↔_
 unfold mst
 by_cases hb:b.getD i []=[]
 · have e:b[i]=[]:=by rw [← getD_get (d:=[]) hi];exact hb
   rw [h.ut0 i hb,e]
   show (0:Int)=0↔_
   omega
 · have e:b[i]=b.getD i []:=by rw [getD_get hi]
   rw [e,(h.mkt.hb i hi hb).1,h.ut i hb]
   have:=mx_nonneg r.length (fun k=>gn r b i k - ov r p k)
   have:0≤JM.ut r.length (gn r b) (ov r p) i:=this
   omega
theorem mixU_getD (L:List (List Int)) (bs:List Bool) (j i:Nat):(mixU L bs j).getD i []=if i<L.length then (if i<j∧bs.getD i false=true then [] else L.getD i []) else []:=by
 by_cases hi:i<L.length
 · rw [getD_get (by rw [mixU_length];exact hi),if_pos hi]
   simp only [mixU,List.getElem_map,List.getElem_range]
 · rw [if_neg hi,List.getD_eq_getElem?_getD,List.getElem?_eq_none (by rw [mixU_length];omega)];rfl
theorem PrM.want (h:PrM r b p) (i:Nat) (hi:i<b.length) (k:Nat):(k:Int) ∈ (wantL b p).getD i []↔mst r.length (gn r b) (ov r p) i∧dm r.length (gn r b) (ov r p) i k:=by
 have hn:=h.none i hi
 rw [mixU_getD,if_pos (by simpa [wantsD] using hi)]
 by_cases hm:mst r.length (gn r b) (ov r p) i
 · rw [if_neg (fun e=>hn.1 e.2 hm),wantsD_get i hi,dmF_eq]
   show (k:Int) ∈ ((List.range b[i].length).filter fun k=>gainI b[i] p k == mx b[i].length (gainI b[i] p)).map Int.ofNat↔_
   have hb:b.getD i []≠[]:=fun e=>by
     have:=h.ut0 i e
     unfold mst at hm;omega
   have e:b[i]=b.getD i []:=by rw [getD_get hi]
   rw [mem_of,e,(h.mkt.hb i hi hb).1,h.ut i hb,beq_iff_eq]
   unfold dm
   rw [gn_ov hb]
   exact ⟨fun e=>⟨hm,e⟩,fun e=>e.2⟩
 · rw [if_pos ⟨hi,hn.2 hm⟩]
   exact ⟨(fun e=>by cases e),fun e=>absurd e.1 hm⟩
theorem PrM.must (h:PrM r b p) (i:Nat):(i:Int) ∈ mustL b p↔i<b.length∧mst r.length (gn r b) (ov r p) i:=by
 show (i:Int) ∈ ((List.range b.length).filter fun i => !(noneD b p).getD i false).map Int.ofNat↔_
 rw [mem_of]
 constructor
 · rintro ⟨h1,h2⟩
   refine ⟨h1,Classical.byContradiction fun hm => ?_⟩
   rw [(h.none i h1).2 hm] at h2;cases h2
 · rintro ⟨h1,h2⟩
   refine ⟨h1,?_⟩
   cases hq:(noneD b p).getD i false with
   | true=>exact absurd h2 ((h.none i h1).1 hq)
   | false=>rfl
theorem PrM.mustR (h:PrM r b p):RisL (mustL b p) b.length:=ris_of _ _
theorem PrM.wantR (h:PrM r b p) (i:Nat):RisL ((wantL b p).getD i []) r.length:=by
 rw [mixU_getD]
 by_cases hi:i<b.length
 · rw [if_pos (by simpa [wantsD] using hi)]
   by_cases hc:i<b.length∧(noneD b p).getD i false=true
   · rw [if_pos hc];exact RisL.nil _
   · rw [if_neg hc,wantsD_get i hi,dmF_eq]
     show RisL (((List.range b[i].length).filter fun k=>gainI b[i] p k == mx b[i].length (gainI b[i] p)).map Int.ofNat) _
     have e:b[i]=b.getD i []:=by rw [getD_get hi]
     by_cases hb:b.getD i []=[]
     · rw [e,hb];exact RisL.nil _
     · rw [e,(h.mkt.hb i hi hb).1];exact ris_of _ _
 · rw [if_neg (by simpa [wantsD] using hi)];exact RisL.nil _
theorem wantL_length (b:List (List Int)) (p:List Int):(wantL b p).length=b.length:=by rw [mixU_length];simp [wantsD]
theorem PrM.gok (h:PrM r b p):GOk (wantL b p) p.length:=by
 refine ⟨by rw [h.pl];exact h.mkt.hk.2,by rw [wantL_length];exact h.mkt.hn.2,fun l hl => ?_⟩
 obtain ⟨i,hi,rfl⟩:=List.getElem_of_mem hl
 rw [← getD_get (d:=[]) hi,h.pl]
 exact h.wantR i
theorem PrM.farH (h:PrM r b p):FarH b p (wantL b p) (mustL b p):=by
 refine ⟨Nat.le_trans (mustU_len _ _) h.mkt.hn.2,fun j hj => ?_⟩
 obtain ⟨h1,h2⟩:=h.mustR.at j hj
 obtain ⟨i,e⟩:=Int.eq_ofNat_of_zero_le h1
 have hm:=(h.must i).1 (by rw [← e];exact List.getElem_mem hj)
 have hi:=hm.1
 have hb:b.getD i []≠[]:=fun eb=>by
   have:=h.ut0 i eb
   have h9:=hm.2
   unfold mst at h9;omega
 refine ⟨i,e,hi,by rw [wantL_length];exact hi,?_,?_,fun z hz => ?_⟩
 · rw [← getD_get (d:=[]) hi,h.pl];exact (h.mkt.hb i hi hb).1
 · obtain ⟨k,hk⟩:=dm_some hm.2
   have:=(h.want i hi k).2 ⟨hm.2,hk⟩
   rw [getD_get (by rw [wantL_length];exact hi)] at this
   exact List.length_pos_of_mem this
 · have hr:=h.wantR i
   rw [getD_get (by rw [wantL_length];exact hi)] at hr
   obtain ⟨a1,a2⟩:=hr.2 z hz
   obtain ⟨k,rfl⟩:=Int.eq_ofNat_of_zero_le a1
   exact ⟨k,rfl,by rw [h.pl];omega⟩
theorem PrM.wth (h:PrM r b p) (l:List Int):wthL (wantL b p) (mustL b p) l=cnt b.length (wt r.length (gn r b) (ov r p) fun k=>(k:Int) ∈ l):=by
 rw [wthL_cnt h.mustR]
 refine cnt_congr fun i hi => ?_
 rw [h.must i]
 unfold wthB wt
 rw [Int.toNat_natCast,List.all_eq_true]
 constructor
 · rintro ⟨⟨_,hm⟩,h2⟩
   exact ⟨hm,fun k hk hd=>by simpa using h2 _ ((h.want i hi k).2 ⟨hm,hd⟩)⟩
 · rintro ⟨hm,h2⟩
   refine ⟨⟨hi,hm⟩,fun z hz => ?_⟩
   obtain ⟨a1,a2⟩:=(h.wantR i).2 z hz
   obtain ⟨k,rfl⟩:=Int.eq_ofNat_of_zero_le a1
   rw [decide_eq_true_eq]
   exact h2 k (by omega) ((h.want i hi k).1 hz).2
theorem setL_of (K:Nat) (S:Nat→Prop):∃ l:List Int,RisL l K∧∀ k,k<K→((k:Int) ∈ l↔S k):=by
 have:DecidablePred S:=fun k=>Classical.propDecidable _
 exact ⟨((List.range K).filter fun k=>decide (S k)).map Int.ofNat,ris_of _ _,fun k hk=>by rw [mem_of,decide_eq_true_eq];exact ⟨fun e=>e.2,fun e=>⟨hk,e⟩⟩⟩
theorem PrM.few (h:PrM r b p) {l:List Int} (hf:FewP (wantL b p) p.length (mustL b p) l true):Few b.length r.length (gn r b) (ov r p) (fun k=>(k:Int) ∈ l):=by
 obtain ⟨m,h1,h2,h3,h4⟩:=hf
 obtain ⟨hl,hr⟩:=setsL_ris.1 h2
 rw [h.pl] at hr
 have hc:=cnt_ris hr
 rw [h.wth] at h3
 refine ⟨by rw [hc];omega,fun S' hS' => ?_⟩
 obtain ⟨l',hr',hm'⟩:=setL_of r.length S'
 have e:cnt r.length S'=l'.length:=by rw [← cnt_ris hr'];exact cnt_congr fun k hk=>(hm' k hk).symm
 have:=h4 l'.length (by omega) l' (setsL_ris.2 ⟨rfl,by rw [h.pl];exact hr'⟩)
 rw [h.wth] at this
 rw [e]
 refine Nat.le_trans (cnt_mono fun i hi hw=>⟨hw.1,fun k hk hd=>(hm' k hk).2 (hw.2 k hk hd)⟩) this
theorem manyL_cnt (l:List Int):manyL l=cnt l.length (fun i=>l.getD i (-1)≠-1):=by
 have key:∀ n,n≤l.length→((l.take n).filter (· != -1)).length=cnt n (fun i=>l.getD i (-1)≠-1):=by
   intro n
   induction n with
   | zero=>intro _;rfl
   | succ n ih =>
     intro hn
     rw [List.take_succ_eq_append_getElem hn,List.filter_append,List.length_append,ih (by omega),cnt_succ]
     have e:l.getD n (-1)=l[n]:=getD_get hn
     rw [e]
     by_cases h:l[n] = -1
     · rw [if_neg (fun hh=>hh h)];simp [h]
     · rw [if_pos h];simp [h]
 have:=key l.length (Nat.le_refl _)
 rw [List.take_length] at this
 exact this
theorem PrM.noOver (h:PrM r b p) (hf:FewP (wantL b p) p.length (mustL b p) [] false):NoOver b.length r.length (gn r b) (ov r p):=by
 intro S
 obtain ⟨_,hf⟩:=hf
 rcases hf with ⟨has,hm,hc⟩ | hall
 · have hlen:has.length=b.length:=by rw [hm.len,aloneL_length,wantL_length]
   have hal:∀ i,i<b.length→has.getD i (-1)≠-1→(i:Int) ∈ mustL b p∧has.getD i (-1) ∈ (wantL b p).getD i []:=fun i hi hne=>by
     have h1:=(hm.ok i (by rw [aloneL_length,wantL_length];exact hi)).resolve_left hne
     rw [aloneL_getD] at h1
     split at h1
     · rename_i hq;exact ⟨hq.2,h1⟩
     · cases h1
   have hcount:cnt b.length (fun i=>has.getD i (-1)≠-1)=cnt b.length (fun i=>(i:Int) ∈ mustL b p):=by
     rw [cnt_ris h.mustR,← hc,manyL_cnt,hlen]
   have hfull:∀ i,i<b.length→(i:Int) ∈ mustL b p→has.getD i (-1)≠-1:=fun i hi hmu hne=>by
     have e1:=cnt_one (P:=fun i=>(i:Int) ∈ mustL b p) i hi hmu
     have e2:=cnt_mono (n:=b.length) (P:=fun i=>has.getD i (-1)≠-1) (Q:=fun j=>(j:Int) ∈ mustL b p∧j≠i) (fun j hj hn=>⟨(hal j hj hn).1,fun e=>by rw [e] at hn;exact hn hne⟩)
     omega
   have hdm:∀ i k,i<b.length→mo has i=some k→k<r.length∧dm r.length (gn r b) (ov r p) i k:=fun i k hi e=>by
     have e':=mo_some.1 e
     obtain ⟨h1,h2⟩:=hal i hi (by omega)
     rw [e'] at h2
     have h3:=((h.want i hi k).1 h2).2
     exact ⟨h3.1,h3⟩
   have hmt:Mt b.length r.length (mo has):=⟨fun i k hi e=>(hdm i k hi e).1,fun i j k hi hj e1 e2=>by
     have e1':=mo_some.1 e1
     have e2':=mo_some.1 e2
     exact hm.inj i j (by rw [aloneL_length,wantL_length];exact hi) (by rw [aloneL_length,wantL_length];exact hj) (by rw [e1',e2']) (by omega)⟩
   exact hall_back (E:=dm r.length (gn r b) (ov r p)) (T:=mst r.length (gn r b) (ov r p)) hmt (fun i k hi _ e=>(hdm i k hi e).2) (fun i hi ht hn=>by
     have h1:=hfull i hi ((h.must i).2 ⟨hi,ht⟩)
     have h2:=mo_none.1 hn
     have h3:=hal i hi h1
     have:=((h.wantR i).2 _ h3.2).1
     omega) S
 · obtain ⟨l',hr',hm'⟩:=setL_of r.length S
   have e:cnt r.length S=l'.length:=by rw [← cnt_ris hr'];exact cnt_congr fun k hk=>(hm' k hk).symm
   have hle:l'.length≤r.length:=by rw [← e];exact cnt_le _ _
   have:=hall l'.length (by rw [h.pl];exact hle) l' (setsL_ris.2 ⟨rfl,by rw [h.pl];exact hr'⟩)
   rw [h.wth] at this
   rw [e]
   exact Nat.le_trans (cnt_mono fun i hi hw=>⟨hw.1,fun k hk hd=>(hm' k hk).2 (hw.2 k hk hd)⟩) this
theorem PrM.row (h:PrM r b p) {l:List Int} (i:Nat) (hi:i<b.length) (hw:wt r.length (gn r b) (ov r p) (fun k=>(k:Int) ∈ l) i):farRow l (b.getD i []) p ((wantL b p).getD i [])=farG l (b.getD i []) p (JM.ut r.length (gn r b) (ov r p) i) r.length:=by
 have hb:b.getD i []≠[]:=fun eb=>by
   have:=h.ut0 i eb
   have h9:=hw.1
   unfold mst at h9;omega
 unfold farRow
 rw [if_neg,h.pl]
 · congr 1
   have hne:1≤((wantL b p).getD i []).length:=by
     obtain ⟨k,hk⟩:=dm_some hw.1
     exact List.length_pos_of_mem ((h.want i hi k).2 ⟨hw.1,hk⟩)
   have hmem:((wantL b p).getD i []).getD 0 0 ∈ (wantL b p).getD i []:=getD_mem hne
   obtain ⟨a1,a2⟩:=(h.wantR i).2 _ hmem
   obtain ⟨k,ek⟩:=Int.eq_ofNat_of_zero_le a1
   rw [ek] at hmem
   have hd:=((h.want i hi k).1 hmem).2.2
   rw [ek,Int.toNat_natCast,← hd,gn_ov hb];rfl
 · intro e
   obtain ⟨z,hz,hn⟩:=List.any_eq_true.1 e
   obtain ⟨a1,a2⟩:=(h.wantR i).2 z hz
   obtain ⟨k,rfl⟩:=Int.eq_ofNat_of_zero_le a1
   have:=hw.2 k (by omega) ((h.want i hi k).1 hz).2
   simp [this] at hn
theorem PrM.rowNil (h:PrM r b p) {l:List Int} (i:Nat) (hi:i<b.length) (hm:mst r.length (gn r b) (ov r p) i) (hw:¬ wt r.length (gn r b) (ov r p) (fun k=>(k:Int) ∈ l) i):farRow l (b.getD i []) p ((wantL b p).getD i [])=[]:=by
 unfold farRow
 rw [if_pos]
 apply Classical.byContradiction
 intro hn
 refine hw ⟨hm,fun k hk hd=>Classical.byContradiction fun hkl=>hn ?_⟩
 exact List.any_eq_true.2 ⟨(k:Int),(h.want i hi k).2 ⟨hm,hd⟩,by simpa using hkl⟩
theorem mem_farU {set:List Int} {b:List (List Int)} {p:List Int} {L:List (List Int)} {mu:List Int} {z:Int}:z ∈ farU set b p L mu mu.length↔∃ i ∈ mu,z ∈ farRow set (b.getD i.toNat []) p (L.getD i.toNat []):=by
 unfold farU
 rw [List.take_length,List.mem_flatMap]
theorem mem_farG {set bid p:List Int} {g:Int} {K:Nat} {z:Int}:z ∈ farG set bid p g K↔z=g∨∃ k,k<K∧¬ (k:Int) ∈ set∧z=g - gainI bid p k:=by
 unfold farG
 rw [List.mem_cons,List.mem_map]
 constructor
 · rintro (e | ⟨k,hk,rfl⟩)
   · exact .inl e
   · obtain ⟨h1,h2⟩:=List.mem_filter.1 hk
     exact .inr ⟨k,List.mem_range.1 h1,by simpa using h2,rfl⟩
 · rintro (e | ⟨k,h1,h2,rfl⟩)
   · exact .inl e
   · exact .inr ⟨k,List.mem_filter.2 ⟨List.mem_range.2 h1,by simpa using h2⟩,rfl⟩
theorem PrM.far (h:PrM r b p) {l:List Int} {z:Int} (h1:z ∈ farU l b p (wantL b p) (mustL b p) (mustL b p).length) (h2:∀ y ∈ farU l b p (wantL b p) (mustL b p) (mustL b p).length,z≤y):Far b.length r.length (gn r b) (ov r p) (fun k=>(k:Int) ∈ l) z:=by
 have hgain:∀ i k,i<b.length→mst r.length (gn r b) (ov r p) i→gainI (b.getD i []) p k=gn r b i k - ov r p k:=fun i k hi hm=>by
   have hb:b.getD i []≠[]:=fun eb=>by
     have:=h.ut0 i eb
     unfold mst at hm;omega
   rw [gn_ov hb];rfl
 refine ⟨fun i hi hw => ?_,?_⟩
 · have hin:∀ y ∈ farG l (b.getD i []) p (JM.ut r.length (gn r b) (ov r p) i) r.length,z≤y:=fun y hy=>h2 y (mem_farU.2 ⟨(i:Int),(h.must i).2 ⟨hi,hw.1⟩,by rw [Int.toNat_natCast,h.row i hi hw];exact hy⟩)
   refine ⟨hin _ (mem_farG.2 (.inl rfl)),fun k hk hs=>hin _ (mem_farG.2 (.inr ⟨k,hk,hs,by rw [hgain i k hi hw.1]⟩))⟩
 · obtain ⟨iz,him,hz⟩:=mem_farU.1 h1
   obtain ⟨a1,a2⟩:=h.mustR.2 iz him
   obtain ⟨i,rfl⟩:=Int.eq_ofNat_of_zero_le a1
   rw [Int.toNat_natCast] at hz
   obtain ⟨hi,hm⟩:=(h.must i).1 him
   by_cases hw:wt r.length (gn r b) (ov r p) (fun k=>(k:Int) ∈ l) i
   · rw [h.row i hi hw] at hz
     refine ⟨i,hi,hw,?_⟩
     rcases mem_farG.1 hz with e | ⟨k,hk,hs,e⟩
     · exact .inl e
     · exact .inr ⟨k,hk,hs,by rw [e,hgain i k hi hm]⟩
   · rw [h.rowNil i hi hm hw] at hz;cases hz
structure RisP (r:List Int) (b:List (List Int)) (p:List Int):Prop where
 m:PrM r b p
 ri:Rise b.length r.length (gn r b) (ov r p)
 top:∀ k,k<r.length→0≤p.getD k 0∧p.getD k 0≤1000000
theorem RisP.of (hm:MkOk r b) (hl:p.length=r.length) (hr:Rise b.length r.length (gn r b) (ov r p)):RisP r b p:=by
 refine ⟨⟨hm,hl,hr.pos⟩,hr,fun k hk => ?_⟩
 have h1:=hr.pos k hk
 have h2:=hm.hr k hk
 unfold ov at h1
 refine ⟨by omega,?_⟩
 rcases hr.top k hk with e | ⟨i,hi,e⟩
 · unfold ov at e;omega
 · by_cases hb:b.getD i []=[]
   · rw [gn_emp hb] at e;unfold ov at e;omega
   · rw [gn_bid hb] at e
     have:=(hm.hb i hi hb).2 k hk
     unfold ov at e;omega
theorem RisP.start (hm:MkOk r b):RisP r b r:=RisP.of hm rfl (Rise.zero _ _ _ fun k _=>by unfold ov;omega)
theorem RisP.pr (h:RisP r b p):PrOk p:=by
 refine ⟨by rw [h.m.pl];exact h.m.mkt.hk.1,by rw [h.m.pl];exact h.m.mkt.hk.2,fun z hz => ?_⟩
 obtain ⟨k,hk,rfl⟩:=List.getElem_of_mem hz
 have:=h.top k (by rw [← h.m.pl];exact hk)
 rw [getD_get hk] at this
 omega
theorem RisP.step (h:RisP r b p) {out:List Int} (hs:StepP b p (wantL b p) (mustL b p) out true):RisP r b out∧sumN r.length (ov r p)+1≤sumN r.length (ov r out):=by
 obtain ⟨l,z,h1,h2,h3,rfl⟩:=hs
 have hf:=h.m.few h1
 have hb:=h.m.far h2 h3
 have e1:∀ k,k<r.length→(k:Int) ∈ l→ov r (addU p l z l.length) k=ov r p k+z:=fun k hk hm=>by
   unfold ov
   rw [addU_getD _ _ _ _ _ (by rw [h.m.pl];exact hk),List.take_length,if_pos hm];omega
 have e2:∀ k,k<r.length→¬ (k:Int) ∈ l→ov r (addU p l z l.length) k=ov r p k:=fun k hk hm=>by
   unfold ov
   rw [addU_getD _ _ _ _ _ (by rw [h.m.pl];exact hk),List.take_length,if_neg hm];omega
 exact ⟨RisP.of h.m.mkt (by rw [addU_length];exact h.m.pl) (h.ri.step hf hb e1 e2),Rise.more hf hb e1 e2⟩
theorem RisP.done (h:RisP r b p) {out:List Int} (hs:StepP b p (wantL b p) (mustL b p) out false):out=p∧Leastp b.length r.length (gn r b) (ov r p):=by
 obtain ⟨h1,h2⟩:=hs
 exact ⟨h2,h.ri.least (h.m.noOver h1)⟩
theorem RisP.sum (h:RisP r b p):0≤sumN r.length (ov r p)∧sumN r.length (ov r p)≤8000000:=by
 have h1:=sumN_le (n:=r.length) (f:=fun _=>0) (g:=ov r p) (fun k hk=>h.m.pos k hk)
 have h2:=sumN_le (n:=r.length) (f:=ov r p) (g:=fun _=>1000000) (fun k hk=>by
   have:=h.top k hk
   have:=(h.m.mkt.hr k hk).1
   unfold ov;omega)
 have h3:∀ n,sumN n (fun _=>1000000)=(n:Int)*1000000:=fun n=>by
   induction n with
   | zero=>rfl
   | succ n ih=>simp only [sumN,ih];omega
 rw [sumN_zero] at h1
 rw [h3] at h2
 have:=h.m.mkt.hk.2
 exact ⟨h1,by omega⟩
end
end JM
end
end Go.Proofs.YtmmmjohoihpbeaaGreat
