/- The package outcomes: has,Even;conditions: those typed. -/
import Derived.Test.YtmmmjohoihpbeaaGreatRJmiJwOfJwVw
import Derived.Test.YtmmmjohoihpbeaaGreatRMChkJwAr
import Derived.Test.YtmmmjohoihpbeaaGreatRJwVJwM
import Derived.Deep.CutBlock
import Derived.Deep.DeepCutAuto
namespace Go.Proofs.YtmmmjohoihpbeaaGreat
section
open Go.RowKit Go.Shelf
set_option linter.unusedVariables false
set_option linter.unusedSimpArgs false
attribute [local go_sem] Oper.semAt_some
def hasF (bid P:List Int) (z:Int):Int:=if z = -1 then 0 else wrap64 (bid.getD z.toNat 0 - P.getD z.toNat 0)
set_option maxHeartbeats 1000000 in
theorem ohas_any (ba pa:Option Addr) (bn bc pn pc:Nat) (bid P:List Int) (z:Int) (w:World) (hb:IsI w ba bn bc bid) (hp:IsI w pa pn pc P) (hz:z = -1∨(0≤z∧z<bid.length∧z<P.length)) :
   Calls Tryz.prog 54 #[.slice ba bn bc,.slice pa pn pc,.int .i64 z] w fun e w' => e=.returned (.int .i64 (hasF bid P z))∧∃ j,w'=w.drewN j:=by
 obtain rfl:=hb.1
 obtain rfl:=hp.1
 by_cases h1:z = -1
 · subst h1
   have HV:Hid (hasF bid P (-1)=0):=Lib.hid (if_pos rfl)
   clear hz hb hp
   go_enter Tryz.func54,Tryz.ntmps54
   go_wp2_with fail
   go_ret
   exact ⟨by rw [HV.out];rfl,0,rfl⟩
 · obtain ⟨h2,h3,h4⟩:0≤z∧z<bid.length∧z<P.length:=by rcases hz with h | h;exact absurd h h1;exact h
   obtain ⟨k,rfl⟩:=Int.eq_ofNat_of_zero_le h2
   have hk1:k<bid.length:=by omega
   have hk2:k<P.length:=by omega
   have hm1:=hb.len
   have hm2:=hp.len
   obtain ⟨b1,o1,rfl,_,c1⟩:=hb.at k hk1
   obtain ⟨b2,o2,rfl,_,c2⟩:=hp.at k hk2
   have HV:Hid (hasF bid P (k:Int)=wrap64 (bid[k] - P[k])):=Lib.hid (by
     unfold hasF
     rw [if_neg h1,Int.toNat_natCast,getD_get hk1,getD_get hk2])
   have d1:((k:Int) == -1)=false:=by rw [beq_eq_false_iff_ne];omega
   generalize bid[k]=x at c1 HV
   generalize P[k]=y at c2 HV
   clear hz hb hp h1 h2 h3 h4
   go_enter Tryz.func54,Tryz.ntmps54
   go_wp2_with fail
   go_quiet (fail)
   go_wp2_with fail
   go_ret
   exact ⟨by rw [HV.out];rfl,nq,rfl⟩
def rowOk (bid P:List Int) (z:Int):Prop:=-1≤z∧z<P.length∧(bid=[]→z = -1)∧(bid≠[]→0≤hasF bid P z∧∀ k:Nat,k<P.length→hasF bid P k≤hasF bid P z)
def cntF (has:List Int) (j k:Nat):Int:=((has.take j).count (k:Int):Int)
theorem cntF_bd (has:List Int) (j k:Nat):0≤cntF has j k∧cntF has j k≤j:=by
 unfold cntF
 have h1:(has.take j).count (k:Int)≤(has.take j).length:=List.count_le_length
 rw [List.length_take] at h1
 omega
theorem cntF_zero (has:List Int):cntF has 0=fun _=>0:=by funext k;simp [cntF]
theorem cntF_none {has:List Int} {j:Nat} (hj:j<has.length) (h:has[j] = -1):cntF has (j+1)=cntF has j:=by
 funext k
 unfold cntF
 rw [List.take_succ_eq_append_getElem hj,List.count_append,h,List.count_singleton]
 have:¬ ((-1:Int) == (k:Int))=true:=by rw [beq_iff_eq];omega
 rw [if_neg this,Nat.add_zero]
theorem cntF_some {has:List Int} {j z:Nat} (hj:j<has.length) (h:has[j]=(z:Int)):cntF has (j+1)=updF (cntF has j) z (cntF has j z+1):=by
 funext k
 unfold cntF updF
 rw [List.take_succ_eq_append_getElem hj,List.count_append,h,List.count_singleton]
 by_cases e:k=z
 · subst e;rw [if_pos (by simp),if_pos rfl];push_cast;rfl
 · rw [if_neg (by rw [beq_iff_eq];omega),if_neg e,Nat.add_zero]
def freF (c:Nat→Int) (j k:Nat):Int:=if k<j then max 0 (c k - 1) else 0
theorem freF_zero (c:Nat→Int):freF c 0=fun _=>0:=by funext k;simp [freF]
theorem freF_succ (c:Nat→Int) (j:Nat):freF c (j+1)=updF (freF c j) j (max 0 (c j - 1)):=by
 funext k
 unfold freF updF
 by_cases e:k=j
 · subst e;rw [if_pos (Nat.lt_succ_self _),if_pos rfl]
 · rw [if_neg e]
   by_cases h:k<j
   · rw [if_pos (show k<j+1 by omega)];exact (if_pos h).symm
   · rw [if_neg (show ¬ k<j+1 by omega)];exact (if_neg h).symm
def prOk (r P:List Int) (c:Nat→Int) (k:Nat):Prop:=r.getD k 0≤P.getD k 0∧P.getD k 0≤2000000∧(0<c k∨P.getD k 0=r.getD k 0)
theorem cnt_used {has:List Int} {k:Nat}:0<cntF has has.length k↔JM.Used has.length (JM.mo has) k:=by
 unfold cntF JM.Used
 rw [List.take_length]
 constructor
 · intro h
   obtain ⟨i,hi,e⟩:=List.getElem_of_mem (List.count_pos_iff.1 (by omega:0<has.count (k:Int)))
   exact ⟨i,hi,JM.mo_some.2 (by rw [getD_get hi];exact e)⟩
 · rintro ⟨i,hi,e⟩
   have e2:=JM.mo_some.1 e
   rw [getD_get hi] at e2
   have:0<has.count (k:Int):=List.count_pos_iff.2 (by rw [← e2];exact List.getElem_mem hi)
   omega
theorem count_inj {l:List Int} {z:Int} (h:l.count z≤1) {i j:Nat} (hi:i<l.length) (hj:j<l.length) (ei:l[i]=z) (ej:l[j]=z):i=j:=by
 induction l generalizing i j with
 | nil=>simp at hi
 | cons x l ih =>
   rw [List.count_cons] at h
   cases i with
   | zero =>
     cases j with
     | zero=>rfl
     | succ j =>
       have hx:x=z:=ei
       have:0<l.count z:=List.count_pos_iff.2 (by have e:l[j]'(by simpa using hj)=z:=ej;rw [← e];exact List.getElem_mem _)
       rw [hx] at h;simp at h;omega
   | succ i =>
     cases j with
     | zero =>
       have hx:x=z:=ej
       have:0<l.count z:=List.count_pos_iff.2 (by have e:l[i]'(by simpa using hi)=z:=ei;rw [← e];exact List.getElem_mem _)
       rw [hx] at h;simp at h;omega
     | succ j =>
       have:=ih (by split at h <;> omega) (by simpa using hi) (by simpa using hj) (by simpa using ei) (by simpa using ej)
       omega
theorem inj_count {l:List Int} {z:Int} (h:∀ i j (hi:i<l.length) (hj:j<l.length),l[i]=z→l[j]=z→i=j):l.count z≤1:=by
 induction l with
 | nil=>simp
 | cons x l ih =>
   rw [List.count_cons]
   have h1:=ih fun i j hi hj e1 e2=>by
     have:=h (i+1) (j+1) (by simpa using hi) (by simpa using hj) (by simpa using e1) (by simpa using e2)
     omega
   by_cases e:x=z
   · have h0:l.count z=0:=by
       rw [List.count_eq_zero]
       intro hm
       obtain ⟨i,hi,e2⟩:=List.getElem_of_mem hm
       have:=h 0 (i+1) (by simp) (by simpa using hi) e (by simpa using e2)
       omega
     rw [h0];split <;> omega
   · rw [if_neg (by rw [beq_iff_eq];exact e)];omega
theorem even_iff {r:List Int} {b:List (List Int)} {has P:List Int} (hm:JM.MkOk r b) (hl:has.length=b.length) (pl:P.length=r.length) (E:Bool) (c:Nat→Int)
   (hE:(E=true∧(∀ i (h:i<has.length),rowOk (b.getD i []) P has[i])∧c=cntF has has.length)∨(E=false∧∃ i,∃ h:i<has.length,¬ rowOk (b.getD i []) P has[i])) :
   (E=true∧(∀ k,k<P.length→prOk r P c k)∧∀ k,k<P.length→c k≤1)↔JM.EvenP r b has P:=by
 have hpb:(∀ k,k<P.length→0≤P.getD k 0∧P.getD k 0≤2000000)→∀ i (h:i<has.length),b.getD i []≠[]→∀ k:Nat,k<P.length→hasF (b.getD i []) P k=(b.getD i []).getD k 0 - P.getD k 0:=fun hp i hi hne k hk=>by
   have h1:=(hm.hb i (by omega) hne).2 k (by omega)
   have h2:=hp k hk
   unfold hasF
   rw [if_neg (by omega),Int.toNat_natCast]
   unfold wrap64;omega
 have hgd:∀ i (h:i<has.length),has.getD i (-1)=has[i]:=fun i h=>getD_get h
 constructor
 · rintro ⟨h1,h2,h3⟩
   rcases hE with ⟨_,hrow,rfl⟩ | ⟨h0,_⟩
   case inr=>rw [h0] at h1;cases h1
   have hp:∀ k,k<P.length→0≤P.getD k 0∧P.getD k 0≤2000000:=fun k hk=>by
     have:=h2 k hk
     have:=hm.hr k (by omega)
     unfold prOk at *
     omega
   have hlow:∀ i (h:i<has.length),-1≤has[i]∧has[i]<P.length:=fun i h=>⟨(hrow i h).1,(hrow i h).2.1⟩
   have hlt:∀ i k,i<has.length→JM.mo has i=some k→k<r.length:=fun i k hi e=>by
     have e2:=JM.mo_some.1 e
     rw [hgd i hi] at e2
     have:=(hlow i hi).2
     omega
   have hgv:∀ i (h:i<has.length),b.getD i []≠[]→JM.gval (fun i k=>(b.getD i []).getD k 0 - P.getD k 0) (JM.mo has) i=hasF (b.getD i []) P has[i]:=fun i hi hne=>by
     cases e:JM.mo has i with
     | none =>
       have e2:=JM.mo_none.1 e
       rw [hgd i hi] at e2
       have:has[i] = -1:=by have:=(hlow i hi).1;omega
       rw [JM.gval_none e,this];rfl
     | some k =>
       have e2:=JM.mo_some.1 e
       rw [hgd i hi] at e2
       rw [JM.gval_some e,e2,hpb hp i hi hne k (by have:=hlt i k hi e;omega)]
   refine ⟨hl,pl,fun i hi=>by rw [hgd i (by omega)];exact (hlow i (by omega)).1,⟨fun i k hi e=>hlt i k (by omega) e,fun i j k hi hj ei ej => ?_⟩,fun i hi he=>by rw [hgd i (by omega)];exact (hrow i (by omega)).2.2.1 he,fun i hi hne => ?_,fun k hk => ?_⟩
   · have hk:=hlt i k (by omega) ei
     have h4:=h3 k (by omega)
     unfold cntF at h4
     rw [List.take_length] at h4
     have e1:=JM.mo_some.1 ei
     have e2:=JM.mo_some.1 ej
     rw [hgd i (by omega)] at e1
     rw [hgd j (by omega)] at e2
     exact count_inj (by omega) (by omega) (by omega) e1 e2
   · rw [hgv i (by omega) hne]
     obtain ⟨h5,h6⟩:=(hrow i (by omega)).2.2.2 hne
     refine ⟨h5,fun k hk => ?_⟩
     rw [← hpb hp i (by omega) hne k (by omega)]
     exact h6 k (by omega)
   · obtain ⟨h5,h6,h7⟩:=h2 k (by omega)
     refine ⟨h5,h6,?_⟩
     rcases h7 with h7 | h7
     · left;rw [← hl];exact cnt_used.1 h7
     · exact .inr h7
 · intro h
   have hp:∀ k,k<P.length→0≤P.getD k 0∧P.getD k 0≤2000000:=fun k hk=>by
     have:=h.p k (by omega)
     have:=hm.hr k (by omega)
     omega
   have hlow:∀ i (hi:i<has.length),-1≤has[i]∧has[i]<P.length:=fun i hi=>by
     have h1:=h.low i (by omega)
     rw [hgd i hi] at h1
     refine ⟨h1,?_⟩
     by_cases h2:has[i]<0
     · have:=hm.hk.1;omega
     · have h3:=h.mt.lt i has[i].toNat (by omega) (JM.mo_some.2 (by rw [hgd i hi];omega))
       omega
   have hrow:∀ i (hi:i<has.length),rowOk (b.getD i []) P has[i]:=fun i hi=>by
     refine ⟨(hlow i hi).1,(hlow i hi).2,fun he=>by have:=h.non i (by omega) he;rwa [hgd i hi] at this,fun hne => ?_⟩
     obtain ⟨h5,h6⟩:=h.now i (by omega) hne
     have hgv:JM.gval (fun i k=>(b.getD i []).getD k 0 - P.getD k 0) (JM.mo has) i=hasF (b.getD i []) P has[i]:=by
       cases e:JM.mo has i with
       | none =>
         have e2:=JM.mo_none.1 e
         rw [hgd i hi] at e2
         have:has[i] = -1:=by have:=(hlow i hi).1;omega
         rw [JM.gval_none e,this];rfl
       | some k =>
         have e2:=JM.mo_some.1 e
         rw [hgd i hi] at e2
         rw [JM.gval_some e,e2,hpb hp i hi hne k (by have:=(hlow i hi).2;omega)]
     rw [← hgv]
     refine ⟨h5,fun k hk => ?_⟩
     rw [hpb hp i hi hne k hk]
     exact h6 k (by omega)
   rcases hE with ⟨h1,_,rfl⟩ | ⟨_,i,hi,hno⟩
   case inr=>exact absurd (hrow i hi) hno
   refine ⟨h1,fun k hk => ?_,fun k hk => ?_⟩
   · obtain ⟨h5,h6,h7⟩:=h.p k (by omega)
     refine ⟨h5,h6,?_⟩
     rcases h7 with h7 | h7
     · left;rw [cnt_used,hl];exact h7
     · exact .inr h7
   · unfold cntF
     rw [List.take_length]
     have:=inj_count (l:=has) (z:=(k:Int)) fun i j hi hj e1 e2=>h.mt.inj i j k (by omega) (by omega) (JM.mo_some.2 (by rw [hgd i hi];exact e1)) (JM.mo_some.2 (by rw [hgd j hj];exact e2))
     omega
end
end Go.Proofs.YtmmmjohoihpbeaaGreat
