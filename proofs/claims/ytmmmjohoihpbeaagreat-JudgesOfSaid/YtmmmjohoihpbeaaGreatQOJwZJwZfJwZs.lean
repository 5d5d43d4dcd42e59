/- The package rises: has,far;conditions: those typed. -/
import Derived.Test.YtmmmjohoihpbeaaGreatQOJwVJwMJwW
namespace Go.Proofs.YtmmmjohoihpbeaaGreat
section
open Go.RowKit Go.Shelf
set_option linter.unusedVariables false
set_option linter.unusedSimpArgs false
attribute [local go_sem] Oper.semAt_some
theorem StV.below {W W':World} {S:Nat} {x:MkA} {m:MkC} {p:List Int} {L:List (List Int)} {mu:List Int} (h:StV W S x m p L mu) (hb:Below W.heap.size W W'):StV W' S x m p L mu:=by
 obtain ⟨h1,h2,pa,pc,B,ma,mc,h3,h4,h5,h6⟩:=h
 exact ⟨h1.below hb,h2,pa,pc,B,ma,mc,below_heap hb h3 (lt_of_heap h3),h4.below hb,h5.below hb,h6.below hb⟩
set_option maxHeartbeats 4000000 in
theorem rhas_any (S:Nat) (x:MkA) (m:MkC) (p:List Int) (L:List (List Int)) (mu:List Int) (i k:Nat) (w:World) (h:StV w S x m p L mu) (hi:i<m.b.length) (hk:k<m.b[i].length) (hkp:k<p.length) (hpo:PrOk p) :
   Calls Tryz.prog 121 #[.pointer (some ⟨S,0,none⟩),.int .i64 (i:Int),.int .i64 (k:Int)] w fun e w' => e=.returned (.int .i64 (m.b[i][k] - p[k]))∧Below w.heap.size w w':=by
 obtain ⟨pa,pc,B,ma,mc,s1,s2,s3,s4⟩:=h.c
 obtain ⟨b1,off1,x1,y1,z1,e1,l1,c1,i1⟩:=h.mv.b.at i hi
 obtain ⟨b2,off2,rfl,l2,c2⟩:=i1.at k hk
 obtain ⟨b3,off3,rfl,l3,c3⟩:=s2.at k hkp
 have hmk:=mktB_bd h.mv.ok
 have hbd:=(bidB_bd (hmk.2.2.2.2 _ (List.getElem_mem hi))).2.2 _ (List.getElem_mem hk)
 have hpb:=hpo.b _ (List.getElem_mem hkp)
 have hy1:=i1.1
 have hbl:=hmk.2.2.1
 have hl1:=h.mv.b.1
 obtain ⟨ra,rn,rc,ba,bn,bc,bv,oa,on,oc⟩:=x
 dsimp only at e1 hl1
 subst e1
 subst hl1
 have k1:w.cell? ⟨S,1,none⟩=some (.slice (some ⟨b1,off1,none⟩) m.b.length bc):=by rw [cell_of_block s1];rfl
 have k3:w.cell? ⟨S,3,none⟩=some (.slice (some ⟨b3,off3,none⟩) p.length pc):=by rw [cell_of_block s1];rfl
 have h8:=hpo.l8
 have hb8:=i1.len
 subst hy1
 clear h s1 s2 s3 s4 i1 hmk hpo l1 l2 l3
 generalize m.b[i][k]=u at c2 hbd ⊢
 generalize p[k]=v at c3 hpb ⊢
 generalize m.b[i].length=bl at c1 hk hb8
 go_enter Tryz.func121,Tryz.ntmps121
 go_wp2_with fail
 go_region
 go_wp2_with fail
 go_ret
 exact ⟨rfl,(Below.refl _ _).drew⟩
theorem minI_any (a:Option Addr) (n c:Nat) (l:List Int) (w:World) (h:IsI w a n c l) (h0:1≤l.length) :
   Calls Tryz.prog 160 #[.slice a n c] w fun e w' => ∃ z,e=.returned (.int .i64 z)∧w=w'∧z ∈ l∧∀ y ∈ l,z≤y:=by
 have hm:=h.len
 obtain rfl:=h.1
 have HI:=Lib.hid h
 have d1:decide ((l.length:Int)<1)=false:=decide_eq_false (by omega)
 have d2:decide (l.length<1)=false:=decide_eq_false (by omega)
 obtain ⟨b,off,rfl,hb,hc0⟩:=h.at 0 h0
 rw [Nat.add_zero] at hc0
 clear h
 obtain ⟨N,hN⟩:∃ N,N=l.length:=⟨_,rfl⟩
 have HN:=Lib.hid hN
 clear hN
 go_enter Tryz.func160,Tryz.ntmps160
 have h00:Hid (∃ i,∃ h:i<l.length,i<1∧l[i]=l[0]):=Lib.hid ⟨0,h0,Nat.lt_succ_self _,rfl⟩
 have h01:Hid (∀ i (h:i<l.length),i<1→l[0]≤l[i]):=Lib.hid (fun i hi h=>by
   have:i=0:=by omega
   subst this;exact Int.le_refl _)
 generalize l[0]=v0 at hc0 h00 h01
 go_wp2_with fail
 go_loopw [3,4] (fun v i wr => ∃ (k:Nat) (z:Int),k≤l.length∧i=.int .i64 (k:Int)∧v=.int .i64 z∧wr=w∧1≤k∧Hid ((∃ i,∃ h:i<l.length,i<k∧l[i]=z)∧∀ i (h:i<l.length),i<k→z≤l[i])) (fun _ i _=>N - (intOf i).toNat)
 case atStart=>exact ⟨1,v0,h0,rfl,rfl,rfl,Nat.le_refl _,Lib.hid ⟨h00.out,h01.out⟩⟩
 case round =>
   obtain ⟨k,z,hk,rfl,rfl,rfl,hk1,HQ⟩:=hrel
   by_cases hlt:k<l.length
   · obtain ⟨b2,off2,e2,hb2,hc2⟩:=HI.out.at k hlt
     obtain ⟨rfl,rfl⟩:b2=b∧off2=off:=by cases e2;exact ⟨rfl,rfl⟩
     have HX:Hid (((∃ i,∃ h:i<l.length,i<k+1∧l[i]=min z l[k])∧∀ i (h:i<l.length),i<k+1→min z l[k]≤l[i])):=Lib.hid (by
       have em:min z l[k]=if l[k]<z then l[k] else z:=by split <;> omega
       rw [em]
       obtain ⟨⟨i,hi,hik,e⟩,h2⟩:=HQ.out
       split
       · rename_i hz
         refine ⟨⟨k,hlt,Nat.lt_succ_self _,rfl⟩,fun i hi h => ?_⟩
         by_cases e:i=k
         · subst e;exact Int.le_refl _
         · have:=h2 i hi (by omega);omega
       · rename_i hz
         refine ⟨⟨i,hi,by omega,e⟩,fun i hi h => ?_⟩
         by_cases e:i=k
         · subst e;omega
         · exact h2 i hi (by omega))
     generalize l[k]=y at hc2 HX
     clear e2 hb2
     go_wp2_with fail
     go_roundw
     case rel=>exact ⟨k+1,_,by omega,by go_num,rfl,by first | rfl | trivial,by omega,HX⟩
     case measure=>have:=HN.out;simp [intOf];omega
   · have hkk:k=l.length:=by omega
     subst hkk
     have HR:Hid (z ∈ l∧∀ y ∈ l,z≤y):=Lib.hid (by
       obtain ⟨⟨i,hi,_,e⟩,h2⟩:=HQ.out
       exact ⟨by rw [← e];exact List.getElem_mem hi,fun y hy=>by
         obtain ⟨j,hj,rfl⟩:=List.getElem_of_mem hy
         exact h2 j hj hj⟩)
     go_wp2_with fail
     go_ret
     exact ⟨z,rfl,rfl,HR.out⟩
theorem rleast_any (a:Option Addr) (n c:Nat) (l:List Int) (w:World) (h:IsI w a n c l) (h0:1≤l.length) :
   Calls Tryz.prog 122 #[.slice a n c] w fun e w' => ∃ z,e=.returned (.int .i64 z)∧w=w'∧z ∈ l∧∀ y ∈ l,z≤y:=by
 go_enter Tryz.func122,Tryz.ntmps122
 go_wp2_with fail
 refine (minI_any a n c l w h h0).mono ?_;rintro e w1 ⟨z,rfl,rfl,h1⟩
 have H1:=Lib.hid h1
 clear h1
 go_wp2_with fail
 go_ret
 exact ⟨z,rfl,rfl,H1.out⟩
theorem far1_any (bx:Nat) (a:Option Addr) (n c:Nat) (set:List Int) (k:Int) (w:World) (hx:w.cell? ⟨bx,0,none⟩=some (.slice a n c)) (h:IsI w a n c set) :
   Calls Tryz.prog 119 #[.int .i64 k,.pointer (some ⟨bx,0,none⟩)] w fun e w' => e=.returned (.bool (decide (k ∈ set)))∧w=w':=by
 go_enter Tryz.func119,Tryz.ntmps119
 go_wp2_with fail
 refine (containsI_any k a n c set w h).mono ?_;rintro e w1 ⟨rfl,rfl⟩
 go_wp2_with fail
 go_ret
 exact ⟨rfl,rfl⟩
theorem far2_any (fx bx:Nat) (a:Option Addr) (n c:Nat) (set:List Int) (k:Int) (w:World) (hf:w.cell? ⟨fx,0,none⟩=some (.func (.func 119) #[] #[.pointer (some ⟨bx,0,none⟩)])) (hx:w.cell? ⟨bx,0,none⟩=some (.slice a n c)) (h:IsI w a n c set) :
   Calls Tryz.prog 120 #[.int .i64 k,.pointer (some ⟨fx,0,none⟩)] w fun e w' => e=.returned (.bool (!decide (k ∈ set)))∧w=w':=by
 go_enter Tryz.func120,Tryz.ntmps120
 go_wp2_with fail
 refine (far1_any bx a n c set k w hx h).mono ?_;rintro e w1 ⟨rfl,rfl⟩
 go_wp2_with fail
 go_ret
 exact ⟨rfl,rfl⟩
end
section
open Go.RowKit Go.Shelf
set_option linter.unusedVariables false
set_option linter.unusedSimpArgs false
attribute [local go_sem] Oper.semAt_some
def gainI (bid p:List Int) (k:Nat):Int:=bid.getD k 0 - p.getD k 0
def farG (set bid p:List Int) (g:Int) (k:Nat):List Int:=g :: ((List.range k).filter fun i:Nat => !decide ((i:Int) ∈ set)).map fun i=>g - gainI bid p i
theorem farG_zero (set bid p:List Int) (g:Int):farG set bid p g 0=[g]:=rfl
theorem farG_succ (set bid p:List Int) (g:Int) (k:Nat):farG set bid p g (k+1)=farG set bid p g k ++ if (k:Int) ∈ set then [] else [g - gainI bid p k]:=by
 unfold farG
 rw [List.range_succ,List.filter_append,List.map_append,List.cons_append]
 congr 2
 simp only [List.filter_cons,List.filter_nil]
 by_cases h:(k:Int) ∈ set
 · rw [if_neg (by simp [h]),if_pos h];rfl
 · rw [if_pos (by simp [h]),if_neg h];rfl
theorem farG_len (set bid p:List Int) (g:Int) (k:Nat):(farG set bid p g k).length≤k+1:=by
 unfold farG
 rw [List.length_cons,List.length_map]
 have:=List.length_filter_le (fun i:Nat => !decide ((i:Int) ∈ set)) (List.range k)
 rw [List.length_range] at this
 omega
def farRow (set bid p wl:List Int):List Int:=if wl.any (fun z => !decide (z ∈ set))=true then [] else farG set bid p (gainI bid p (wl.getD 0 0).toNat) p.length
theorem farRow_len (set bid p wl:List Int):(farRow set bid p wl).length≤p.length+1:=by
 unfold farRow
 split
 · simp
 · exact farG_len _ _ _ _ _
def farU (set:List Int) (b:List (List Int)) (p:List Int) (L:List (List Int)) (mu:List Int) (j:Nat):List Int:=(mu.take j).flatMap fun i=>farRow set (b.getD i.toNat []) p (L.getD i.toNat [])
theorem farU_succ (set:List Int) (b:List (List Int)) (p:List Int) (L:List (List Int)) (mu:List Int) (j:Nat) (h:j<mu.length):farU set b p L mu (j+1)=farU set b p L mu j ++ farRow set (b.getD mu[j].toNat []) p (L.getD mu[j].toNat []):=by
 unfold farU
 rw [List.take_succ_eq_append_getElem h,List.flatMap_append];simp
theorem farU_len (set:List Int) (b:List (List Int)) (p:List Int) (L:List (List Int)) (mu:List Int) (j:Nat):(farU set b p L mu j).length≤j*(p.length+1):=by
 have h:∀ l:List Int,(l.flatMap fun i=>farRow set (b.getD i.toNat []) p (L.getD i.toNat [])).length≤l.length*(p.length+1):=fun l=>by
   induction l with
   | nil=>simp
   | cons x l ih =>
     rw [List.flatMap_cons,List.length_append,List.length_cons,Nat.succ_mul]
     have:=farRow_len set (b.getD x.toNat []) p (L.getD x.toNat [])
     omega
 refine Nat.le_trans (h _) (Nat.mul_le_mul_right _ ?_)
 rw [List.length_take];omega
def FarH (b:List (List Int)) (p:List Int) (L:List (List Int)) (mu:List Int):Prop :=
 mu.length≤8∧∀ j (h:j<mu.length),∃ i:Nat,mu[j]=(i:Int)∧∃ hi:i<b.length,∃ hL:i<L.length,b[i].length=p.length∧1≤L[i].length∧∀ z ∈ L[i],∃ k:Nat,z=(k:Int)∧k<p.length
set_option maxRecDepth 100000 in
set_option maxHeartbeats 8000000 in
theorem far_any (S:Nat) (x:MkA) (m:MkC) (p:List Int) (L:List (List Int)) (mu:List Int) (sa:Option Addr) (sn sc:Nat) (set:List Int) (w:World) (h:StV w S x m p L mu) (hs:IsI w sa sn sc set) (hf:FarH m.b p L mu) (hpo:PrOk p) (hne:1≤(farU set m.b p L mu mu.length).length) :
   Calls Tryz.prog 100 #[.pointer (some ⟨S,0,none⟩),.slice sa sn sc] w fun e w' => ∃ z,e=.returned (.int .i64 z)∧Below w.heap.size w w'∧z ∈ farU set m.b p L mu mu.length∧∀ y ∈ farU set m.b p L mu mu.length,z≤y:=by
 obtain rfl:=hs.1
 have hp8:=hpo.l8
 obtain ⟨b0,m0,m1⟩:=alloc2_facts w (.cells #[.slice sa set.length sc] 22 (0,0)) (.cells #[.func (.func 119) #[] #[.pointer (some ⟨w.heap.size,0,none⟩)]] 127 (0,0))
 have HV:=Lib.hid (h.below b0)
 have HS:=Lib.hid (hs.below b0)
 have HB:=Lib.hid b0
 have HF:=Lib.hid hf
 have HP:=Lib.hid hpo
 have HN:=Lib.hid hne
 have hm8:=hf.1
 obtain ⟨pa,pc,B,ma,mc,s1,s2,s3,s4⟩:=HV.out.c
 have k3:((w.alloc (.cells #[.slice sa set.length sc] 22 (0,0))).alloc (.cells #[.func (.func 119) #[] #[.pointer (some ⟨w.heap.size,0,none⟩)]] 127 (0,0))).cell? ⟨S,3,none⟩=some (.slice pa p.length pc):=by rw [cell_of_block s1];obtain ⟨ra,rn,rc,ba,bn,bc,bv,oa,on,oc⟩:=x;rfl
 have k4:((w.alloc (.cells #[.slice sa set.length sc] 22 (0,0))).alloc (.cells #[.func (.func 119) #[] #[.pointer (some ⟨w.heap.size,0,none⟩)]] 127 (0,0))).cell? ⟨S,4,none⟩=some (.slice (some ⟨B,0,none⟩) m.b.length m.b.length):=by rw [cell_of_block s1];obtain ⟨ra,rn,rc,ba,bn,bc,bv,oa,on,oc⟩:=x;rfl
 have k5:((w.alloc (.cells #[.slice sa set.length sc] 22 (0,0))).alloc (.cells #[.func (.func 119) #[] #[.pointer (some ⟨w.heap.size,0,none⟩)]] 127 (0,0))).cell? ⟨S,5,none⟩=some (.slice ma mu.length mc):=by rw [cell_of_block s1];obtain ⟨ra,rn,rc,ba,bn,bc,bv,oa,on,oc⟩:=x;rfl
 have c0:((w.alloc (.cells #[.slice sa set.length sc] 22 (0,0))).alloc (.cells #[.func (.func 119) #[] #[.pointer (some ⟨w.heap.size,0,none⟩)]] 127 (0,0))).cell? ⟨w.heap.size,0,none⟩=some (.slice sa set.length sc):=by rw [cell_of_block m0];rfl
 have c1:((w.alloc (.cells #[.slice sa set.length sc] 22 (0,0))).alloc (.cells #[.func (.func 119) #[] #[.pointer (some ⟨w.heap.size,0,none⟩)]] 127 (0,0))).cell? ⟨w.heap.size+1,0,none⟩=some (.func (.func 119) #[] #[.pointer (some ⟨w.heap.size,0,none⟩)]):=by rw [cell_of_block m1];rfl
 have HS3:=Lib.hid s3
 have HS4:=Lib.hid s4
 clear h hs hf hpo hne b0 m0 m1 s1 s2 s3 s4
 go_enter Tryz.func100,Tryz.ntmps100
 go_wp2_with fail
 generalize ((w.alloc (.cells #[.slice sa set.length sc] 22 (0,0))).alloc (.cells #[.func (.func 119) #[] #[.pointer (some ⟨w.heap.size,0,none⟩)]] 127 (0,0)))=W at *
 go_loopw [6,17] (fun v i wr => ∃ (j:Nat) (a:Option Addr) (c:Nat),j≤mu.length∧i=.int .i64 (j:Int)∧v=.slice a (farU set m.b p L mu j).length c∧Hid (wr.ownsRow W.heap.size 3 1 (.slice a (farU set m.b p L mu j).length c) (farU set m.b p L mu j).length (icells (farU set m.b p L mu j))∧Below W.heap.size W wr)) (fun _ i _=>mu.length - (intOf i).toNat)
 case atStart=>exact ⟨0,none,0,Nat.zero_le _,rfl,rfl,Lib.hid ⟨World.ownsRow_nil _ _ _ _,Below.refl _ _⟩⟩
 case round =>
   obtain ⟨j,a,c,hj,rfl,rfl,HQ⟩:=hrel
   by_cases hlt:j<mu.length
   · obtain ⟨i,ei,hib,hiL,hbl,hL1,hLz⟩:=HF.out.2 j hlt
     obtain ⟨bm,om,rfl,hbm,hcm⟩:=HS4.out.at j hlt
     rw [ei] at hcm
     obtain ⟨x1,y1,z1,q1,q2,q3⟩:=HS3.out.cell i hiL
     have hbW:=HQ.out.2
     have p0:=cell_later hbW c0
     have p1:=cell_later hbW c1
     have p3:=cell_later hbW k3
     have p4:=cell_later hbW k4
     have p5:=cell_later hbW hcm
     have p6:=cell_later hbW q1
     have HI3:=Lib.hid (q3.below hbW)
     have HSW:=Lib.hid (HS.out.below hbW)
     have HVW:=Lib.hid (HV.out.below hbW)
     have hY1:=q3.1
     subst hY1
     clear hbW hcm q1 q2 q3
     have HRow:Hid (farU set m.b p L mu (j+1)=farU set m.b p L mu j ++ farRow set m.b[i] p L[i]):=Lib.hid (by
       rw [farU_succ _ _ _ _ _ _ hlt,ei,Int.toNat_natCast,getD_get hib,getD_get hiL])
     have hful:=farU_len set m.b p L mu j
     have hful2:(farU set m.b p L mu j).length≤63:=by
       have:j*(p.length+1)≤7*9:=Nat.mul_le_mul (by omega) (by omega)
       omega
     clear hful
     go_wp2_with fail
     refine (conI_gen 120 #[.pointer (some ⟨w.heap.size+1,0,none⟩)] (fun z => !decide (z ∈ set)) x1 L[i].length z1 L[i] wr HI3.out (fun x W' => (enters_of Tryz.func120 (by kernel_rfl) rfl) _ _) (fun z hz W' hW' => (far2_any (w.heap.size+1) w.heap.size sa set.length sc set z W' (cell_later hW' p1) (cell_later hW' p0) (HSW.out.below hW')).mono (by rintro e w' ⟨rfl,rfl⟩;exact ⟨rfl,Below.refl _ _⟩))).mono ?_
     rintro e w5 ⟨rfl,hb5⟩
     have HB5:=Lib.hid (HQ.out.2.trans (hb5.mono HQ.out.2.size))
     have HO5:=Lib.hid (owns_below HQ.out.1 hb5)
     cases hq:L[i].any (fun z => !decide (z ∈ set)) with
     | true =>
       have HE:Hid (farU set m.b p L mu (j+1)=farU set m.b p L mu j):=Lib.hid (by rw [HRow.out];unfold farRow;rw [if_pos hq,List.append_nil])
       clear hq hb5
       go_wp2_with fail
       go_roundw
       case rel=>exact ⟨j+1,a,c,by omega,by go_num,by rw [HE.out],by rw [HE.out];exact Lib.hid ⟨HO5.out,HB5.out⟩⟩
       case measure=>simp [intOf];omega
     | false =>
       obtain ⟨k0,e0,hk0⟩:=hLz _ (List.getElem_mem hL1)
       have hk0b:k0<m.b[i].length:=by omega
       have HE:Hid (farU set m.b p L mu (j+1)=farU set m.b p L mu j ++ farG set m.b[i] p (m.b[i][k0] - p[k0]) p.length):=Lib.hid (by
         rw [HRow.out];unfold farRow
         have e1:gainI m.b[i] p (L[i].getD 0 0).toNat=m.b[i][k0] - p[k0]:=by
           rw [getD_get hL1,e0,Int.toNat_natCast];unfold gainI;rw [getD_get hk0b,getD_get hk0]
         rw [if_neg (by rw [hq];decide),e1])
       obtain ⟨b3,off3,e3,hb3,hc3⟩:=HI3.out.at 0 hL1
       rw [e0,Nat.add_zero] at hc3
       subst e3
       have r1:=cell_later hb5 p1
       have r0:=cell_later hb5 p0
       have r3:=cell_later hb5 p3
       have r4:=cell_later hb5 p4
       have r6:=cell_later hb5 p6
       have r7:=cell_later hb5 hc3
       have HV5:=Lib.hid (HVW.out.below hb5)
       have HS5:=Lib.hid (HSW.out.below hb5)
       have hbd:=(bidB_bd ((mktB_bd HV.out.mv.ok).2.2.2.2 _ (List.getElem_mem hib))).2.2 _ (List.getElem_mem hk0b)
       have hpb:=HP.out.b _ (List.getElem_mem hk0)
       clear hq hb5 p0 p1 p3 p4 p5 p6 hc3 HVW HSW HI3 HQ e0 ei hLz hbm HRow
       go_wp2_with fail
       refine (rhas_any S x m p L mu i k0 w5 HV5.out hib hk0b hk0 HP.out).mono ?_;rintro e w6 ⟨rfl,hb6⟩
       have t1:=cell_later hb6 r1
       have t0:=cell_later hb6 r0
       have t3:=cell_later hb6 r3
       have HV6:=Lib.hid (HV5.out.below hb6)
       have HS6:=Lib.hid (HS5.out.below hb6)
       have HO6:=Lib.hid (owns_below HO5.out hb6)
       have HB6:=Lib.hid (HB5.out.trans (hb6.mono HB5.out.size))
       clear hb6 r0 r1 r3 r4 r6 r7 HV5 HS5 HO5 HB5
       obtain ⟨g,hg⟩:∃ g,g=m.b[i][k0] - p[k0]:=⟨_,rfl⟩
       have hgb:-2000000≤g∧g≤1000000:=by omega
       rw [← hg] at HE ⊢
       clear hg hbd hpb
       generalize farU set m.b p L mu j=fu at *
       clear t0 t1 t3 HV6 HS6
       obtain ⟨wo,hwo⟩:∃ wo,wr=wo:=⟨_,rfl⟩
       have hsz6:=HB6.out.size
       try dsimp only
       go_wp2_with (at_builtin
                    refine wpList_append_any rowInt rfl (.tmp 42) (.tmp 44) rfl W.heap.size _ fu.length (icells fu) rfl (HO6.out.alloc _) (some ⟨w6.heap.size,0,none⟩) 1 1 [.int .i64 g] rfl rfl (At.one w6 _ _) (one_cell _ rfl) (by unfold maxLen;omega) (by omega) (by simp;omega) ?_
                    intro b7 c7 w7 ho7 hg7 _
                    have HB7:=Lib.hid ((HB6.out.alloc HB6.out.size _).grown hg7 (by simp;omega) (fun k hk=>owns_base HO6.out k hk))
                    have HO7:=Lib.hid ho7
                    have y3:=cell_later HB7.out k3
                    clear ho7 hg7)
       have HO70:Hid (w7.ownsRow W.heap.size 3 1 (.slice b7 (fu ++ farG set m.b[i] p g 0).length c7) (fu ++ farG set m.b[i] p g 0).length (icells (fu ++ farG set m.b[i] p g 0))):=Lib.hid (by
         rw [farG_zero,icells_append,List.length_append];exact HO7.out)
       have HL0:Hid ((fu ++ farG set m.b[i] p g 0).length=fu.length+1):=Lib.hid (by rw [farG_zero,List.length_append];rfl)
       clear HO7
       go_loopw [6,51] (fun v q wr => ∃ (k:Nat) (a:Option Addr) (c:Nat),k≤p.length∧q=.int .i64 (k:Int)∧v=.slice a (fu ++ farG set m.b[i] p g k).length c∧Hid (wr.ownsRow W.heap.size 3 1 (.slice a (fu ++ farG set m.b[i] p g k).length c) (fu ++ farG set m.b[i] p g k).length (icells (fu ++ farG set m.b[i] p g k))∧Below W.heap.size W wr)) (fun _ q _=>p.length - (intOf q).toNat)
       case atStart=>exact ⟨0,b7,c7,Nat.zero_le _,rfl,by rw [HL0.out],Lib.hid ⟨HO70.out,HB7.out⟩⟩
       case round =>
         obtain ⟨k,a8,c8,hk,rfl,rfl,HR⟩:=hrel
         by_cases hkl:k<p.length
         · have hbW:=HR.out.2
           have y0:=cell_later hbW c0
           have y1:=cell_later hbW c1
           have HS8:=Lib.hid (HS.out.below hbW)
           have HV8:=Lib.hid (HV.out.below hbW)
           have hkb:k<m.b[i].length:=by omega
           have hlen:(fu ++ farG set m.b[i] p g k).length≤80:=by
             have:=farG_len set m.b[i] p g k
             rw [List.length_append];omega
           have HG:Hid (fu ++ farG set m.b[i] p g (k+1)=(fu ++ farG set m.b[i] p g k) ++ if (k:Int) ∈ set then [] else [g - gainI m.b[i] p k]):=Lib.hid (by rw [farG_succ,List.append_assoc])
           clear hbW
           generalize fu ++ farG set m.b[i] p g k=gk at HR hlen HG ⊢
           go_wp2_with fail
           refine (far1_any w.heap.size sa set.length sc set (k:Int) wr y0 HS8.out).mono ?_;rintro e w9 ⟨rfl,rfl⟩
           by_cases hin:(k:Int) ∈ set
           · have e1:decide ((k:Int) ∈ set)=true:=decide_eq_true hin
             rw [e1]
             have HE2:Hid (fu ++ farG set m.b[i] p g (k+1)=gk):=Lib.hid (by rw [HG.out,if_pos hin,List.append_nil])
             clear e1 hin
             go_wp2_with fail
             go_roundw
             case rel=>exact ⟨k+1,a8,c8,by omega,by go_num,by rw [HE2.out],by rw [HE2.out];exact HR⟩
             case measure=>simp [intOf];omega
           · have e1:decide ((k:Int) ∈ set)=false:=decide_eq_false hin
             rw [e1]
             have hgi:gainI m.b[i] p k=m.b[i][k] - p[k]:=by unfold gainI;rw [getD_get hkb,getD_get hkl]
             have hbd:=(bidB_bd ((mktB_bd HV.out.mv.ok).2.2.2.2 _ (List.getElem_mem hib))).2.2 _ (List.getElem_mem hkb)
             have hpb:=HP.out.b _ (List.getElem_mem hkl)
             obtain ⟨gg,hgg⟩:∃ gg,gg=m.b[i][k] - p[k]:=⟨_,rfl⟩
             have hggb:-2000000≤gg∧gg≤1000000:=by omega
             have HE2:Hid (fu ++ farG set m.b[i] p g (k+1)=gk ++ [g - gg]):=Lib.hid (by rw [HG.out,if_neg hin,hgi,hgg])
             have HCALL:Hid (Calls Tryz.prog 121 #[.pointer (some ⟨S,0,none⟩),.int .i64 (i:Int),.int .i64 (k:Int)] wr fun e w' => e=.returned (.int .i64 gg)∧Below wr.heap.size wr w'):=Lib.hid (by
               rw [hgg];exact rhas_any S x m p L mu i k wr HV8.out hib hkb hkl HP.out)
             clear e1 hin hgg hbd hpb hgi HG
             go_wp2_with fail
             refine HCALL.out.mono ?_;rintro e w9 ⟨rfl,hb9⟩
             have HO9:=Lib.hid (owns_below HR.out.1 hb9)
             have HB9:=Lib.hid (HR.out.2.trans (hb9.mono HR.out.2.size))
             have hsz9:=HB9.out.size
             clear hb9
             try dsimp only
             go_wp2_with (at_builtin
                          refine wpList_append_any rowInt rfl (.tmp 58) (.tmp 65) rfl W.heap.size _ gk.length (icells gk) rfl (HO9.out.alloc _) (some ⟨w9.heap.size,0,none⟩) 1 1 [.int .i64 (g - gg)] rfl rfl (At.one w9 _ _) (one_cell _ rfl) (by unfold maxLen;omega) (by omega) (by simp;omega) ?_
                          intro b7 c7 w7 ho7 hg7 _
                          have HB7:=Lib.hid ((HB9.out.alloc HB9.out.size _).grown hg7 (by simp;omega) (fun k hk=>owns_base HO9.out k hk))
                          have HO7:=Lib.hid ho7
                          clear ho7 hg7)
             go_roundw
             case rel=>exact ⟨k+1,b7,c7,by omega,by go_num,by rw [HE2.out,List.length_append];first | done | rfl,by rw [HE2.out,icells_append,List.length_append];exact Lib.hid ⟨HO7.out,HB7.out⟩⟩
             case measure=>simp [intOf];omega
         · have hkk:k=p.length:=by omega
           subst hkk
           go_wp2_with fail
           go_roundw
           case rel=>exact ⟨j+1,a8,c8,by omega,by go_num,by rw [HE.out];first | done | rw [List.length_append],by rw [HE.out];exact HR⟩
           case measure=>simp [intOf];omega
   · have hjj:j=mu.length:=by omega
     subst hjj
     have hI:=isI_of_owns HQ.out.1 rfl
     have HI:=Lib.hid hI
     have HBW:=Lib.hid (HB.out.trans (HQ.out.2.mono HB.out.size))
     clear hI HQ
     go_wp2_with fail
     refine (rleast_any a _ c _ wr HI.out HN.out).mono ?_;rintro e w1 ⟨z,rfl,rfl,h1⟩
     have H1:=Lib.hid h1
     clear h1
     go_wp2_with fail
     go_ret
     exact ⟨z,rfl,HBW.out,H1.out⟩
end
section
open Go.RowKit Go.Shelf
set_option linter.unusedVariables false
set_option linter.unusedSimpArgs false
attribute [local go_sem] Oper.semAt_some
theorem setsL_iff:∀ (m:Nat) (ah:List Int) (f it:Nat) (l:List Int),l ∈ setsL m ah f it↔∃ t,l=ah ++ t∧t.length=m∧t.Pairwise (· < ·)∧∀ z ∈ t,(f:Int)≤z∧z<it
 | 0,ah,f,it,l=>by
   show l ∈ [ah]↔_
   rw [List.mem_singleton]
   constructor
   · rintro rfl;exact ⟨[],by simp,rfl,List.Pairwise.nil,fun z hz=>by cases hz⟩
   · rintro ⟨t,rfl,ht,_⟩;rw [List.eq_nil_of_length_eq_zero ht,List.append_nil]
 | m+1,ah,f,it,l=>by
   show l ∈ (List.range' f (it - m - f)).flatMap _↔_
   rw [List.mem_flatMap]
   constructor
   · rintro ⟨k,hk,h⟩
     rw [List.mem_range'_1] at hk
     obtain ⟨t,rfl,h1,h2,h3⟩:=(setsL_iff m _ _ _ _).1 h
     refine ⟨(k:Int) :: t,by simp,by simp [h1],List.pairwise_cons.2 ⟨fun z hz=>by have:=(h3 z hz).1;omega,h2⟩,fun z hz => ?_⟩
     rcases List.mem_cons.1 hz with rfl | hz
     · omega
     · have:=h3 z hz;omega
   · rintro ⟨t,rfl,h1,h2,h3⟩
     cases t with
     | nil=>cases h1
     | cons z t =>
       obtain ⟨h4,h5⟩:=List.pairwise_cons.1 h2
       have hz:=h3 z List.mem_cons_self
       obtain ⟨k,rfl⟩:=Int.eq_ofNat_of_zero_le (show 0≤z by omega)
       have hlen:t.length=m:=by simpa using h1
       have key:∀ (t:List Int) (k:Nat),t.Pairwise (· < ·)→(∀ y ∈ t,(k:Int)<y)→(∀ y ∈ t,y<it)→k<it→k+t.length<it:=by
         intro t
         induction t with
         | nil=>intro k _ _ _ h;simpa using h
         | cons y t ih =>
           intro k hp hk hi hki
           obtain ⟨a1,a2⟩:=List.pairwise_cons.1 hp
           have b1:=hk y List.mem_cons_self
           have b2:=hi y List.mem_cons_self
           obtain ⟨q,rfl⟩:=Int.eq_ofNat_of_zero_le (show 0≤y by omega)
           have:=ih q a2 a1 (fun z hz=>hi z (List.mem_cons_of_mem _ hz)) (by omega)
           rw [List.length_cons];omega
       have hkt:=key t k h5 h4 (fun y hy=>(h3 y (List.mem_cons_of_mem _ hy)).2) (by omega)
       refine ⟨k,by rw [List.mem_range'_1];omega,(setsL_iff m _ _ _ _).2 ⟨t,by simp,hlen,h5,fun y hy => ?_⟩⟩
       have:=h4 y hy
       have:=(h3 y (List.mem_cons_of_mem _ hy)).2
       omega
theorem setsL_ris {m it:Nat} {l:List Int}:l ∈ setsL m [] 0 it↔l.length=m∧RisL l it:=by
 rw [setsL_iff]
 constructor
 · rintro ⟨t,rfl,h1,h2,h3⟩;exact ⟨by simpa using h1,by simpa using h2,fun z hz=>by simpa using h3 z (by simpa using hz)⟩
 · rintro ⟨h1,h2,h3⟩;exact ⟨l,by simp,h1,h2,fun z hz=>by simpa using h3 z hz⟩
def addU (p set:List Int) (b:Int) (j:Nat):List Int:=(List.range p.length).map fun k:Nat=>p.getD k 0+if (k:Int) ∈ set.take j then b else 0
theorem addU_length (p set:List Int) (b:Int) (j:Nat):(addU p set b j).length=p.length:=by simp [addU]
theorem addU_zero (p set:List Int) (b:Int):addU p set b 0=p:=by
 apply List.ext_getElem
 · simp [addU]
 · intro i h1 h2;simp [addU,h2]
theorem addU_at (p set:List Int) (b:Int) (j k:Nat) (h:k<p.length):(addU p set b j)[k]'(by rw [addU_length];exact h)=p[k]+if (k:Int) ∈ set.take j then b else 0:=by
 simp [addU,h]
theorem addU_getD (p set:List Int) (b:Int) (j k:Nat) (h:k<p.length):(addU p set b j).getD k 0=p.getD k 0+if (k:Int) ∈ set.take j then b else 0:=by
 simp [addU,h]
theorem addU_set {p set:List Int} {b:Int} {j k:Nat} (hs:set.Nodup) (hj:j<set.length) (hk:set[j]=(k:Int)) (h:k<p.length):(addU p set b j).set k (p[k]+b)=addU p set b (j+1)∧(addU p set b j)[k]'(by rw [addU_length];exact h)=p[k]:=by
 have hnot:¬ (k:Int) ∈ set.take j:=fun hm=>by
   obtain ⟨i,hi,e⟩:=List.getElem_of_mem hm
   rw [List.getElem_take] at e
   have hij:i<j:=by rw [List.length_take] at hi;omega
   have:=(List.getElem_inj hs).1 (e.trans hk.symm)
   omega
 refine ⟨?_,by rw [addU_at _ _ _ _ _ h,if_neg hnot,Int.add_zero]⟩
 apply List.ext_getElem
 · simp [addU]
 · intro i h1 h2
   have hi:i<p.length:=by rwa [addU_length] at h2
   rw [List.getElem_set,addU_at p set b (j+1) i hi,List.take_succ_eq_append_getElem hj]
   by_cases e:k=i
   · subst e;rw [if_pos rfl,if_pos (by rw [hk];simp)]
   · rw [if_neg e,addU_at _ _ _ _ _ hi]
     have:((i:Int) ∈ set.take j ++ [set[j]])↔(i:Int) ∈ set.take j:=by
       rw [List.mem_append,List.mem_singleton,hk]
       constructor
       · rintro (h | h)
         · exact h
         · exact absurd (by omega) e
       · exact .inl
     simp only [this]
def StepP (b:List (List Int)) (p:List Int) (L:List (List Int)) (mu:List Int) (out:List Int) (is:Bool):Prop :=
 if is then ∃ l z,FewP L p.length mu l true∧z ∈ farU l b p L mu mu.length∧(∀ y ∈ farU l b p L mu mu.length,z≤y)∧out=addU p l z l.length
 else FewP L p.length mu [] false∧out=p
theorem farRow_some {set bid p wl:List Int} (h:(wl.all fun k=>decide (k ∈ set))=true):1≤(farRow set bid p wl).length:=by
 unfold farRow
 rw [if_neg]
 · unfold farG;simp
 · intro e
   obtain ⟨z,hz,hn⟩:=List.any_eq_true.1 e
   have:=(List.all_eq_true.1 h) z hz
   rw [this] at hn;cases hn
theorem farU_some {set:List Int} {b:List (List Int)} {p:List Int} {L:List (List Int)} {mu:List Int} (h:0<wthL L mu set):1≤(farU set b p L mu mu.length).length:=by
 unfold wthL at h
 obtain ⟨z,hz⟩:=List.exists_mem_of_length_pos h
 obtain ⟨h1,h2⟩:=List.mem_filter.1 hz
 have h3:=farRow_some (bid:=b.getD z.toNat []) (p:=p) h2
 obtain ⟨y,hy⟩:=List.exists_mem_of_length_pos h3
 refine List.length_pos_of_mem (a:=y) ?_
 unfold farU
 rw [List.mem_flatMap,List.take_length]
 exact ⟨z,h1,hy⟩
theorem getD_bd {l:List Int} {a b:Int} (h:∀ z ∈ l,a≤z∧z≤b) (h0:a≤0∧0≤b) (k:Nat):a≤l.getD k 0∧l.getD k 0≤b:=by
 by_cases hk:k<l.length
 · exact h _ (getD_mem hk)
 · rw [List.getD_eq_getElem?_getD,List.getElem?_eq_none (by omega)];exact h0
theorem farU_bd {set:List Int} {b:List (List Int)} {p:List Int} {L:List (List Int)} {mu:List Int} {j:Nat} (hb:∀ l ∈ b,∀ z ∈ l,0≤z∧z≤1000000) (hp:∀ z ∈ p,0≤z∧z≤2000000):∀ z ∈ farU set b p L mu j,-4000000≤z∧z≤4000000:=by
 intro z hz
 unfold farU at hz
 obtain ⟨i,_,hz⟩:=List.mem_flatMap.1 hz
 have hbi:∀ z ∈ b.getD i.toNat [],0≤z∧z≤1000000:=by
   by_cases hi:i.toNat<b.length
   · exact hb _ (getD_mem hi)
   · rw [List.getD_eq_getElem?_getD,List.getElem?_eq_none (by omega)];intro z hz;cases hz
 have hg:∀ k,-2000000≤gainI (b.getD i.toNat []) p k∧gainI (b.getD i.toNat []) p k≤1000000:=fun k=>by
   have h1:=getD_bd hbi (by omega) k
   have h2:=getD_bd hp (by omega) k
   unfold gainI;omega
 unfold farRow at hz
 split at hz
 · cases hz
 · unfold farG at hz
   have h0:=hg ((L.getD i.toNat []).getD 0 0).toNat
   rcases List.mem_cons.1 hz with rfl | hz
   · omega
   · obtain ⟨k,_,rfl⟩:=List.mem_map.1 hz
     have:=hg k
     omega
theorem owns_iset {w:World} {base e g n c:Nat} {L:List Int} (h:w.ownsRow base e 1 (.slice (some ⟨g,0,none⟩) n c) n (icells L)) (j:Nat) (hj:j<L.length) (z:Int) :
   (w.setCell ⟨g,j,none⟩ (.int .i64 z)).ownsRow base e 1 (.slice (some ⟨g,0,none⟩) n c) n (icells (L.set j z))∧w.cell? ⟨g,j,none⟩=some (.int .i64 L[j])∧w.frozen? ⟨g,j,none⟩=false:=by
 have hl:=h.1
 have hc:=owns_icell h j hj
 rcases h.2 with ⟨hv,h0⟩ | ⟨g',cap,cur,hv,hb,hg,hnc,hcm,hcs,htk⟩
 · cases hv
 · cases hv
   refine ⟨⟨by simpa [icells] using hl,.inr ⟨g,c,_,rfl,hb,heap_setCell_same w g j _ _ _ hg,hnc,hcm,by simpa using hcs,?_⟩⟩,hc,blk_free hg⟩
   rw [Array.toList_setIfInBounds,List.take_set,htk]
   simp [icells,List.map_set]
set_option maxRecDepth 100000 in
set_option maxHeartbeats 8000000 in
theorem rstep_any (S:Nat) (x:MkA) (m:MkC) (p:List Int) (L:List (List Int)) (mu:List Int) (w:World) (h:StV w S x m p L mu) (hg:GOk L p.length) (hr:RisL mu L.length) (hf:FarH m.b p L mu) (hpo:PrOk p) :
   Calls Tryz.prog 84 #[.pointer (some ⟨S,0,none⟩)] w fun e w' => ∃ a c out is,e=.returned (.tuple #[.slice a p.length c,.bool is])∧Below w.heap.size w w'∧IsI w' a p.length c out∧StepP m.b p L mu out is∧∀ k off,a=some ⟨k,off,none⟩→w.heap.size≤k:=by
 obtain ⟨pa,pc,B,ma,mc,s1,s2,s3,s4⟩:=h.c
 have hp8:=hpo.l8
 have hn8:=hg.hn
 have hl:=h.l
 have hb1:=(mktB_bd h.mv.ok).2.1
 have k3:w.cell? ⟨S,3,none⟩=some (.slice pa p.length pc):=by rw [cell_of_block s1];obtain ⟨ra,rn,rc,ba,bn,bc,bv,oa,on,oc⟩:=x;rfl
 have k4:w.cell? ⟨S,4,none⟩=some (.slice (some ⟨B,0,none⟩) m.b.length m.b.length):=by rw [cell_of_block s1];obtain ⟨ra,rn,rc,ba,bn,bc,bv,oa,on,oc⟩:=x;rfl
 have k5:w.cell? ⟨S,5,none⟩=some (.slice ma mu.length mc):=by rw [cell_of_block s1];obtain ⟨ra,rn,rc,ba,bn,bc,bv,oa,on,oc⟩:=x;rfl
 have HV:=Lib.hid h
 have HP:=Lib.hid s2
 have HW:=Lib.hid (show IsII w (some ⟨B,0,none⟩) m.b.length m.b.length L by rw [← hl];exact s3.isII L.length (Nat.le_refl _) (by unfold maxLen;omega))
 have HM:=Lib.hid s4
 have HG:=Lib.hid hg
 have HR:=Lib.hid hr
 have HF:=Lib.hid hf
 have HPO:=Lib.hid hpo
 have HL:=Lib.hid hl
 clear h s1 s2 s3 s4 hg hr hf hpo hl
 go_enter Tryz.func84,Tryz.ntmps84
 go_wp2_with fail
 refine (iclone_any pa p.length pc p w HP.out (by omega)).mono ?_;rintro e w1 ⟨a1,c1,rfl,hb1',ho1⟩
 obtain ⟨r1,r2,r3⟩:=owns_caps ho1
 have HB1:=Lib.hid hb1'
 have HO1:=Lib.hid ho1
 have l3:=cell_later hb1' k3
 have l4:=cell_later hb1' k4
 have l5:=cell_later hb1' k5
 clear hb1' ho1 k3 k4 k5
 go_wp2_with fail
 refine (iclip_any a1 p.length c1 w1 r1 r2 r3).mono ?_;rintro e w2 ⟨rfl,rfl⟩
 have HFEW:Hid (∀ w',Below w1.heap.size w1 w'→Calls Tryz.prog 99 #[.slice (some ⟨B,0,none⟩) m.b.length m.b.length,.int .i64 p.length,.slice ma mu.length mc] w' (FewQ w' L p.length mu)):=Lib.hid (fun w' hw' =>
   few_any _ _ _ _ _ _ L p.length mu w' ((HW.out.below HB1.out).below hw') HG.out ((HM.out.below HB1.out).below hw') HR.out (by rw [HL.out];exact hb1))
 go_wp2_with fail
 go_region_with ((go_at_call 99;refine (HFEW.out _ (by first | exact (Below.refl _ _).drew | exact Below.refl _ _)).mono ?_;rintro e w3 ⟨x3,c3,l,is,rfl,hb3,hi3,hq3,hx3⟩))
 all_goals
   simp only [Act.put,List.getElem_toArray,List.getElem_cons_succ,List.getElem_cons_zero,List.setIfInBounds_toArray,List.set_cons_zero,List.set_cons_succ]
   have hb3':Below w1.heap.size w1 w3:=by first | exact hb3 | exact (Below.refl _ _).drew.trans hb3
   have HX3:Hid (∀ (k off:Nat),x3=some ⟨k,off,none⟩→w1.heap.size≤k):=Lib.hid hx3
   have HB3:=Lib.hid (HB1.out.trans (hb3'.mono HB1.out.size))
   have HO3:=Lib.hid (owns_below HO1.out hb3')
   have HI3:=Lib.hid hi3
   have HV3:=Lib.hid (HV.out.below HB3.out)
   have HQ3:=Lib.hid hq3
   have hw13:=hb3'.size
   clear hb3 hb3' hx3 hi3 hq3 l3 l4 l5 HFEW
   cases is with
   | false =>
     go_wp2_with fail
     go_ret2
     exact ⟨a1,p.length,p,false,rfl,HB3.out,(isI_of_owns HO3.out rfl).clip,by have:=HQ3.out;unfold FewP at this;unfold StepP FewP;obtain ⟨rfl,h⟩:=this;exact ⟨⟨rfl,h⟩,rfl⟩,fun k off e=>by subst e;exact owns_base HO3.out k rfl⟩
   | true =>
     have HRL:Hid (RisL l p.length∧1≤(farU l m.b p L mu mu.length).length):=Lib.hid (by
       obtain ⟨m',h1,h2,h3,h4⟩:=HQ3.out
       exact ⟨(setsL_ris.1 h2).2,farU_some (by omega)⟩)
     go_wp2_with fail
     refine (far_any S x m p L mu x3 l.length c3 l w3 HV3.out HI3.out HF.out HPO.out HRL.out.2).mono ?_;rintro e w4 ⟨z,rfl,hb4,hz1,hz2⟩
     have hzb:-4000000≤z∧z≤4000000:=farU_bd (fun l hl=>(bidB_bd ((mktB_bd HV.out.mv.ok).2.2.2.2 l hl)).2.2) HPO.out.b z hz1
     have HZ:=Lib.hid (And.intro hz1 hz2)
     have HB4:=Lib.hid (HB3.out.trans (hb4.mono HB3.out.size))
     have HI4:=Lib.hid (HI3.out.below hb4)
     have HO4:=Lib.hid (owns_below HO3.out hb4)
     have hw34:=hb4.size
     clear hb4 hz1 hz2
     obtain ⟨g,rfl⟩:∃ g,a1=some ⟨g,0,none⟩:=by
       have hpl:=HPO.out.l1
       rcases HO4.out.2 with ⟨_,h0⟩ | ⟨g,cap,cur,hv,_⟩
       · omega
       · cases hv;exact ⟨g,rfl⟩
     have hg1:w.heap.size≤g∧g<w1.heap.size:=⟨owns_base HO1.out g rfl,by obtain ⟨cur,hc⟩:=owns_block HO1.out (k:=g) rfl;exact lt_of_heap hc⟩
     have hll:=HI4.out.len
     go_wp2_with fail
     go_loopw [43] (fun i wr => ∃ j:Nat,j≤l.length∧i=.int .i64 (j:Int)∧Hid (wr.ownsRow w.heap.size 3 1 (.slice (some ⟨g,0,none⟩) p.length c1) p.length (icells (addU p l z j))∧Touch (fun k=>k=g) w4 wr)) (fun i _=>l.length - (intOf i).toNat)
     case atStart=>exact ⟨0,Nat.zero_le _,rfl,Lib.hid ⟨by rw [addU_zero];exact HO4.out,Touch.refl _ _⟩⟩
     case round =>
       obtain ⟨j,hj,rfl,HQ⟩:=hrel
       by_cases hlt:j<l.length
       · obtain ⟨b5,off5,e5,hb5,hc5⟩:=HI4.out.at j hlt
         subst e5
         have hne5:b5≠g:=fun e=>by have:=HX3.out b5 off5 rfl;omega
         have k5:=HQ.out.2.cell hc5 hne5
         obtain ⟨q1,q2⟩:=HRL.out.1.at j hlt
         obtain ⟨k,ek⟩:=Int.eq_ofNat_of_zero_le q1
         have hkp:k<p.length:=by omega
         obtain ⟨hs1,hs2⟩:=addU_set (p:=p) (b:=z) HRL.out.1.nodup hlt ek hkp
         obtain ⟨o1,o2,o3⟩:=owns_iset HQ.out.1 k (by rw [addU_length];exact hkp) (p[k]+z)
         rw [hs2] at o2
         rw [hs1] at o1
         rw [ek] at k5
         have hpb:=HPO.out.b _ (List.getElem_mem hkp)
         generalize p[k]=pk at o1 o2 hpb
         have HQ2:Hid ((wr.setCell ⟨g,k,none⟩ (.int .i64 (pk+z))).ownsRow w.heap.size 3 1 (.slice (some ⟨g,0,none⟩) p.length c1) p.length (icells (addU p l z (j+1)))∧Touch (fun k=>k=g) w4 (wr.setCell ⟨g,k,none⟩ (.int .i64 (pk+z)))):=Lib.hid ⟨o1,HQ.out.2.setCell _ _ (.inl rfl)⟩
         clear hc5 o1 hs1 hs2 ek q1 q2
         go_wp2_with fail
         go_roundw
         case rel=>exact ⟨j+1,by omega,by go_num,HQ2⟩
         case measure=>simp [intOf];omega
       · have hjj:j=l.length:=by omega
         subst hjj
         have HE:Hid (Below w.heap.size w wr):=Lib.hid (HB4.out.trans (HQ.out.2.below HB4.out.size (fun k hk e=>by omega)))
         go_wp2_with fail
         go_ret2
         exact ⟨some ⟨g,0,none⟩,p.length,addU p l z l.length,true,rfl,HE.out,(by have h9:=isI_of_owns HQ.out.1 (by rw [addU_length]);simpa only [addU_length] using h9.clip),⟨l,z,HQ3.out,HZ.out.1,HZ.out.2,rfl⟩,fun k off e=>by cases e;exact hg1.1⟩
end
end Go.Proofs.YtmmmjohoihpbeaaGreat
