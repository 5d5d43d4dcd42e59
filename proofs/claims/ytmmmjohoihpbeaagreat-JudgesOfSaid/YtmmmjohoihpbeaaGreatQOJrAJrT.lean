/- The document's small readers (04 Check,06 Has and Rises,13 in,09 less);conditions: those typed. -/
import Derived.Test.YtmmmjohoihpbeaaGreatQOGStGetGStTwJwTl
import Derived.Test.YtmmmjohoihpbeaaGreatQOGStOrdGStRecJwAJwBJwGJwEq
import Derived.Test.YtmmmjohoihpbeaaGreatQOJwNJwFJwP
import Derived.Test.YtmmmjohoihpbeaaGreatQOStMktJwEJwTm
namespace Go.Proofs.YtmmmjohoihpbeaaGreat
open Go.RowKit
set_option linter.unusedVariables false
set_option linter.unusedSimpArgs false
set_option maxRecDepth 100000
theorem okB_no1 (l:List Int) (items:Int) (h:¬ (1≤items∧items≤8)):okB l items=false:=by unfold okB;rw [decide_eq_false h];rfl
theorem okB_no2 (l:List Int) (items:Int) (h:(l.length:Int)≠items):okB l items=false:=by unfold okB;rw [decide_eq_false h];simp
theorem okB_in (l:List Int) (items:Int) (h1:1≤items∧items≤8) (h2:(l.length:Int)=items):okB l items=inB 1000000 l:=by unfold okB;rw [decide_eq_true h1,decide_eq_true h2];rfl
set_option maxHeartbeats 2000000 in
theorem rcheck_any (a:Option Addr) (n c:Nat) (l:List Int) (items:Int) (w:World) (hl:IsI w a n c l) (hi:-1000000≤items∧items≤4611686018427387904) :
   Calls Tryz.prog 29 #[.slice a n c,.int .i64 items] w fun e w' => e=.returned (.bool (okB l items))∧w=w':=by
 obtain ⟨rfl,hlc,hcm,hcells⟩:=hl
 have hm:l.length≤9223372036854775807:=by unfold maxLen at hcm;omega
 have HC:Hid (∀ k (h:k<l.length),∃ b off,a=some ⟨b,off,none⟩∧w.cell? ⟨b,off+k,none⟩=some (.int .i64 l[k])):=Lib.hid fun k hk=>by
   rcases hcells with ⟨h0,_⟩ | ⟨b,off,ha,_,h⟩
   · rw [h0] at hk;simp at hk
   · exact ⟨b,off,ha,h k hk⟩
 clear hcells hcm hlc
 by_cases h1:items<1
 · have d1:decide (items<1)=true:=decide_eq_true h1
   have HF:=Lib.hid (okB_no1 l items (by omega))
   clear h1
   go_enter Tryz.func29,Tryz.ntmps29
   go_wp2_with fail
   go_ret
   exact ⟨by rw [HF.out];rfl,rfl⟩
 have d1:decide (items<1)=false:=decide_eq_false h1
 by_cases h2:8<items
 · have d2:decide ((8:Int)<items)=true:=decide_eq_true h2
   have HF:=Lib.hid (okB_no1 l items (by omega))
   clear h1 h2
   go_enter Tryz.func29,Tryz.ntmps29
   go_wp2_with fail
   go_ret
   exact ⟨by rw [HF.out];rfl,rfl⟩
 have d2:decide ((8:Int)<items)=false:=decide_eq_false h2
 by_cases h3:(l.length:Int)=items
 · have HF:=Lib.hid (okB_in l items (by omega) h3)
   obtain ⟨N,hN⟩:∃ N,N=l.length:=⟨_,rfl⟩
   have HN:=Lib.hid hN
   rw [← h3] at d1 d2 ⊢
   rw [← h3] at HF
   clear hN h3 h1 h2 hi
   go_enter Tryz.func29,Tryz.ntmps29
   go_wp2_with fail
   go_loop [5] (fun i => ∃ k:Nat,k≤l.length∧i=.int .i64 k∧Hid (∀ j (hj:j<l.length),j<k→0≤l[j]∧l[j]≤1000000)) (fun i=>N - (intOf i).toNat)
   case atStart=>exact ⟨0,Nat.zero_le _,rfl,Lib.hid (fun j hj h=>by omega)⟩
   case round =>
     obtain ⟨k,hk,rfl,HS⟩:=hrel
     by_cases hlt:k<l.length
     · obtain ⟨b,off,rfl,hcell⟩:=HC.out k hlt
       by_cases h1:l[k]<0
       · have HB:=Lib.hid (inB_bad 1000000 l k hlt (.inl h1))
         have d1:decide (l[k]<0)=true:=decide_eq_true h1
         generalize l[k]=z at hcell h1 d1
         go_wp2_with fail
         go_ret
         exact ⟨by rw [HF.out,HB.out];rfl,rfl⟩
       · have d1:decide (l[k]<0)=false:=decide_eq_false h1
         by_cases h2:1000000<l[k]
         · have HB:=Lib.hid (inB_bad 1000000 l k hlt (.inr h2))
           have d2:decide ((1000000:Int)<l[k])=true:=decide_eq_true h2
           generalize l[k]=z at hcell h1 h2 d1 d2
           go_wp2_with fail
           go_ret
           exact ⟨by rw [HF.out,HB.out];rfl,rfl⟩
         · have d2:decide ((1000000:Int)<l[k])=false:=decide_eq_false h2
           have HS2:Hid (∀ j (hj:j<l.length),j<k+1→0≤l[j]∧l[j]≤1000000):=Lib.hid (fun j hj h=>by
             by_cases hjk:j=k
             · subst hjk;exact ⟨by omega,by omega⟩
             · exact HS.out j hj (by omega))
           generalize l[k]=z at hcell h1 h2 d1 d2
           go_wp2_with fail
           go_round
           case rel=>exact ⟨k+1,by omega,by go_num,HS2⟩
           case measure=>have:=HN.out;simp [intOf];omega
     · have hkk:k=l.length:=by omega
       have HB:Hid (inB 1000000 l=true):=Lib.hid (inB_all 1000000 l (fun i hi=>HS.out i hi (by omega)))
       subst hkk
       go_wp2_with fail
       go_ret
       exact ⟨by rw [HF.out,HB.out];rfl,rfl⟩
 · have d3:(((l.length:Nat):Int) == items)=false:=by rw [beq_eq_false_iff_ne];exact h3
   have d4:(((l.length:Nat):Int) != items)=true:=by rw [bne,d3];rfl
   have HF:=Lib.hid (okB_no2 l items h3)
   clear h1 h2 h3
   go_enter Tryz.func29,Tryz.ntmps29
   go_wp2_with fail
   go_ret
   exact ⟨by rw [HF.out];rfl,rfl⟩
set_option maxHeartbeats 2000000 in
theorem r06has_any (a:Option Addr) (n c:Nat) (l:List Int) (z:Int) (w:World) (hl:IsI w a n c l) :
   Calls Tryz.prog 137 #[.slice a n c,.int .i64 z] w fun e w' => e=.returned (.bool (decide (z ∈ l)))∧w=w':=by
 obtain ⟨rfl,hlc,hcm,hcells⟩:=hl
 have hm:l.length≤9223372036854775807:=by unfold maxLen at hcm;omega
 have HC:Hid (∀ k (h:k<l.length),∃ b off,a=some ⟨b,off,none⟩∧w.cell? ⟨b,off+k,none⟩=some (.int .i64 l[k])):=Lib.hid fun k hk=>by
   rcases hcells with ⟨h0,_⟩ | ⟨b,off,ha,_,h⟩
   · rw [h0] at hk;simp at hk
   · exact ⟨b,off,ha,h k hk⟩
 obtain ⟨N,hN⟩:∃ N,N=l.length:=⟨_,rfl⟩
 have HN:=Lib.hid hN
 clear hcells hcm hlc hN
 go_enter Tryz.func137,Tryz.ntmps137
 go_wp2_with fail
 go_loop [5] (fun i => ∃ k:Nat,k≤l.length∧i=.int .i64 k∧Hid (∀ j (hj:j<l.length),j<k→l[j]≠z)) (fun i=>N - (intOf i).toNat)
 case atStart=>exact ⟨0,Nat.zero_le _,rfl,Lib.hid (fun j hj h=>by omega)⟩
 case round =>
   obtain ⟨k,hk,rfl,HS⟩:=hrel
   by_cases hlt:k<l.length
   · obtain ⟨b,off,rfl,hcell⟩:=HC.out k hlt
     by_cases h1:l[k]=z
     · have HB:Hid (z ∈ l):=Lib.hid (h1 ▸ List.getElem_mem hlt)
       have d1:(l[k] == z)=true:=by rw [h1];exact beq_self_eq_true z
       clear h1
       generalize l[k]=y at hcell d1
       go_wp2_with fail
       go_ret
       exact ⟨by rw [decide_eq_true HB.out];rfl,rfl⟩
     · have HS2:Hid (∀ j (hj:j<l.length),j<k+1→l[j]≠z):=Lib.hid (fun j hj h=>by
         by_cases hjk:j=k
         · subst hjk;exact h1
         · exact HS.out j hj (by omega))
       have d1:(l[k] == z)=false:=by rw [beq_eq_false_iff_ne];exact h1
       clear h1
       generalize l[k]=y at hcell d1
       go_wp2_with fail
       go_round
       case rel=>exact ⟨k+1,by omega,by go_num,HS2⟩
       case measure=>have:=HN.out;simp [intOf];omega
   · have hkk:k=l.length:=by omega
     have HB:Hid (¬ z ∈ l):=Lib.hid (fun e=>by
       obtain ⟨j,hj,e⟩:=List.getElem_of_mem e
       exact HS.out j hj (by omega) e)
     subst hkk
     go_wp2_with fail
     go_ret
     exact ⟨by rw [decide_eq_false HB.out];rfl,rfl⟩
set_option maxHeartbeats 2000000 in
theorem rin_any (a:Option Addr) (n c:Nat) (l:List Int) (z:Int) (w:World) (hl:IsI w a n c l) :
   Calls Tryz.prog 106 #[.slice a n c,.int .i64 z] w fun e w' => e=.returned (.bool (decide (z ∈ l)))∧w=w':=by
 obtain ⟨rfl,hlc,hcm,hcells⟩:=hl
 have hm:l.length≤9223372036854775807:=by unfold maxLen at hcm;omega
 have HC:Hid (∀ k (h:k<l.length),∃ b off,a=some ⟨b,off,none⟩∧w.cell? ⟨b,off+k,none⟩=some (.int .i64 l[k])):=Lib.hid fun k hk=>by
   rcases hcells with ⟨h0,_⟩ | ⟨b,off,ha,_,h⟩
   · rw [h0] at hk;simp at hk
   · exact ⟨b,off,ha,h k hk⟩
 obtain ⟨N,hN⟩:∃ N,N=l.length:=⟨_,rfl⟩
 have HN:=Lib.hid hN
 clear hcells hcm hlc hN
 go_enter Tryz.func106,Tryz.ntmps106
 go_wp2_with fail
 go_loop [5] (fun i => ∃ k:Nat,k≤l.length∧i=.int .i64 k∧Hid (∀ j (hj:j<l.length),j<k→l[j]≠z)) (fun i=>N - (intOf i).toNat)
 case atStart=>exact ⟨0,Nat.zero_le _,rfl,Lib.hid (fun j hj h=>by omega)⟩
 case round =>
   obtain ⟨k,hk,rfl,HS⟩:=hrel
   by_cases hlt:k<l.length
   · obtain ⟨b,off,rfl,hcell⟩:=HC.out k hlt
     by_cases h1:l[k]=z
     · have HB:Hid (z ∈ l):=Lib.hid (h1 ▸ List.getElem_mem hlt)
       have d1:(l[k] == z)=true:=by rw [h1];exact beq_self_eq_true z
       clear h1
       generalize l[k]=y at hcell d1
       go_wp2_with fail
       go_ret
       exact ⟨by rw [decide_eq_true HB.out];rfl,rfl⟩
     · have HS2:Hid (∀ j (hj:j<l.length),j<k+1→l[j]≠z):=Lib.hid (fun j hj h=>by
         by_cases hjk:j=k
         · subst hjk;exact h1
         · exact HS.out j hj (by omega))
       have d1:(l[k] == z)=false:=by rw [beq_eq_false_iff_ne];exact h1
       clear h1
       generalize l[k]=y at hcell d1
       go_wp2_with fail
       go_round
       case rel=>exact ⟨k+1,by omega,by go_num,HS2⟩
       case measure=>have:=HN.out;simp [intOf];omega
   · have hkk:k=l.length:=by omega
     have HB:Hid (¬ z ∈ l):=Lib.hid (fun e=>by
       obtain ⟨j,hj,e⟩:=List.getElem_of_mem e
       exact HS.out j hj (by omega) e)
     subst hkk
     go_wp2_with fail
     go_ret
     exact ⟨by rw [decide_eq_false HB.out];rfl,rfl⟩
set_option maxHeartbeats 2000000 in
theorem rrises_any (a:Option Addr) (n c:Nat) (l:List Int) (many:Nat) (w:World) (hl:IsI w a n c l) (hr:RisL l many) (hmm:many≤8) :
   Calls Tryz.prog 136 #[.slice a n c,.int .i64 many] w fun e w' => e=.returned (.bool true)∧Below w.heap.size w w':=by
 obtain ⟨rfl,hlc,hcm,hcells⟩:=hl
 have hm:l.length≤8:=by have:=hr.len;omega
 have HC:Hid (∀ k (h:k<l.length),∃ b off,a=some ⟨b,off,none⟩∧b<w.heap.size∧∀ j (hj:j<l.length),w.cell? ⟨b,off+j,none⟩=some (.int .i64 l[j])):=Lib.hid fun k hk=>by
   rcases hcells with ⟨h0,_⟩ | ⟨b,off,ha,h2,h⟩
   · rw [h0] at hk;simp at hk
   · exact ⟨b,off,ha,h2,h⟩
 obtain ⟨N,hN⟩:∃ N,N=l.length:=⟨_,rfl⟩
 have HN:=Lib.hid hN
 have HR:=Lib.hid hr
 clear hcells hcm hlc hN hr
 go_enter Tryz.func136,Tryz.ntmps136
 go_wp2_with fail
 go_loopw [5] (fun i wr => ∃ k:Nat,k≤l.length∧i=.int .i64 k∧Hid (Below w.heap.size w wr)) (fun i _=>N - (intOf i).toNat)
 case atStart=>exact ⟨0,Nat.zero_le _,rfl,Lib.hid (Below.refl _ _)⟩
 case round =>
   obtain ⟨k,hk,rfl,HB⟩:=hrel
   by_cases hlt:k<l.length
   · obtain ⟨b,off,rfl,hbl,hcell⟩:=HC.out k hlt
     have e1:=(HB.out.cell (p:=⟨b,off+k,none⟩) hbl).trans (hcell k hlt)
     have hb:=HR.out.at k hlt
     have d1:decide (l[k]<0)=false:=decide_eq_false (by omega)
     have d2:decide ((many:Int)≤l[k])=false:=decide_eq_false (by omega)
     by_cases h0:k=0
     · subst h0
       have HB2:Hid (Below w.heap.size w wr.drew):=Lib.hid HB.out.drew
       rw [Nat.add_zero] at e1
       generalize l[0]=z at e1 d1 d2
       clear hcell hb
       go_wp2_with fail
       go_region
       go_wp2_with fail
       go_roundw
       case rel=>exact ⟨0+1,by omega,by go_num,HB2⟩
       case measure=>have:=HN.out;simp [intOf];omega
     · obtain ⟨q,rfl⟩:∃ q,k=q+1:=⟨k - 1,by omega⟩
       have e2:=(HB.out.cell (p:=⟨b,off+q,none⟩) hbl).trans (hcell q (by omega))
       have hlq:=HR.out.lt q (q+1) (by omega) hlt
       have d3:decide (l[q+1]≤l[q])=false:=decide_eq_false (by omega)
       have HB2:Hid (Below w.heap.size w wr.drew):=Lib.hid HB.out.drew
       generalize l[q+1]=z at e1 d1 d2 d3
       generalize l[q]=y at e2 d3
       have d4:decide ((0:Int)<((q+1:Nat):Int))=true:=decide_eq_true (by omega)
       have e3:((q+1:Nat):Int) - 1=(q:Int):=by omega
       clear hcell hb hlq h0
       go_wp2_with fail
       go_region
       go_wp2_with fail
       go_roundw
       case rel=>exact ⟨q+1+1,by omega,by go_num,HB2⟩
       case measure=>have:=HN.out;simp [intOf];omega
   · have hkk:k=l.length:=by omega
     subst hkk
     go_wp2_with fail
     go_ret
     exact ⟨rfl,HB.out⟩
set_option maxHeartbeats 2000000 in
theorem rless_any (a ka:Option Addr) (n c kn kc:Nat) (l r:List Int) (w:World) (hl:IsI w a n c l) (hr:IsI w ka kn kc r) (he:l.length=r.length) (hm:l.length≤8) :
   Calls Tryz.prog 138 #[.slice a n c,.slice ka kn kc] w fun e w' => ∃ v,e=.returned (.bool v)∧Below w.heap.size w w':=by
 obtain ⟨rfl,hlc,hcm,hcells⟩:=hl
 obtain ⟨rfl,hlc2,hcm2,hcells2⟩:=hr
 have HC:Hid (∀ k (h:k<l.length),∃ b off b2 off2,a=some ⟨b,off,none⟩∧ka=some ⟨b2,off2,none⟩∧b<w.heap.size∧b2<w.heap.size∧w.cell? ⟨b,off+k,none⟩=some (.int .i64 l[k])∧w.cell? ⟨b2,off2+k,none⟩=some (.int .i64 (r.getD k 0))):=Lib.hid fun k hk=>by
   rcases hcells with ⟨h0,_⟩ | ⟨b,off,ha,h2,h⟩
   · rw [h0] at hk;simp at hk
   · rcases hcells2 with ⟨h0,_⟩ | ⟨b',off',ha',h2',h'⟩
     · rw [he,h0] at hk;simp at hk
     · exact ⟨b,off,b',off',ha,ha',h2,h2',h k hk,by rw [getD_get (by omega)];exact h' k (by omega)⟩
 obtain ⟨N,hN⟩:∃ N,N=l.length:=⟨_,rfl⟩
 have HN:=Lib.hid hN
 have HE:=Lib.hid he
 clear hcells hcm hlc hN hcells2 hcm2 hlc2
 rw [← he]
 clear he
 go_enter Tryz.func138,Tryz.ntmps138
 go_wp2_with fail
 go_loopw [5] (fun i wr => ∃ k:Nat,k≤l.length∧i=.int .i64 k∧Hid (Below w.heap.size w wr)) (fun i _=>N - (intOf i).toNat)
 case atStart=>exact ⟨0,Nat.zero_le _,rfl,Lib.hid (Below.refl _ _)⟩
 case round =>
   obtain ⟨k,hk,rfl,HB⟩:=hrel
   by_cases hlt:k<l.length
   · obtain ⟨b,off,b2,off2,rfl,rfl,hbl,hbl2,c1,c2⟩:=HC.out k hlt
     have e1:=(HB.out.cell (p:=⟨b,off+k,none⟩) hbl).trans c1
     have e2:=(HB.out.cell (p:=⟨b2,off2+k,none⟩) hbl2).trans c2
     generalize l[k]=z at e1 c1
     generalize r.getD k 0=y at e2 c2
     clear c1 c2
     by_cases h1:z=y
     · have d1:(z != y)=false:=by rw [h1];simp
       have HB2:Hid (Below w.heap.size w wr.drew):=Lib.hid HB.out.drew
       clear h1
       go_wp2_with fail
       go_region
       go_wp2_with fail
       go_roundw
       case rel=>exact ⟨k+1,by omega,by go_num,HB2⟩
       case measure=>have:=HN.out;simp [intOf];omega
     · have d1:(z != y)=true:=by rw [bne_iff_ne];exact h1
       have HB2:Hid (Below w.heap.size w wr.drew.drew):=Lib.hid HB.out.drew.drew
       clear h1
       go_wp2_with fail
       go_region
       go_wp2_with fail
       go_region
       go_wp2_with fail
       go_ret
       exact ⟨_,rfl,HB2.out⟩
   · have hkk:k=l.length:=by omega
     subst hkk
     go_wp2_with fail
     go_ret
     exact ⟨_,rfl,HB.out⟩
theorem IsIL.below {w w':World} {a:Option Addr} {n c:Nat} {L:List (List Int)} (h:IsIL w a n c L) (hb:Below w.heap.size w w'):IsIL w' a n c L:=by
 obtain ⟨h1,h2,h3,h4 | ⟨b,off,rfl,hlt,hc⟩⟩:=h
 · exact ⟨h1,h2,h3,.inl h4⟩
 · refine ⟨h1,h2,h3,.inr ⟨b,off,rfl,Nat.lt_of_lt_of_le hlt hb.size,fun i hi => ?_⟩⟩
   obtain ⟨x,y,z,e,hI⟩:=hc i hi
   exact ⟨x,y,z,(hb.cell (p:=⟨b,off+i,none⟩) hlt).trans e,hI.below hb⟩
theorem IsIL.at {w:World} {a:Option Addr} {n c:Nat} {L:List (List Int)} (h:IsIL w a n c L) {i:Nat} (hi:i<L.length):∃ b off x z,a=some ⟨b,off,none⟩∧b<w.heap.size∧w.cell? ⟨b,off+i,none⟩=some (.slice x L[i].length z)∧IsI w x L[i].length z L[i]:=by
 obtain ⟨_,_,_,h4 | ⟨b,off,rfl,hlt,hc⟩⟩:=h
 · rw [h4] at hi;simp at hi
 · obtain ⟨x,y,z,e,hI⟩:=hc i hi
   obtain rfl:=hI.1
   exact ⟨b,off,x,z,rfl,hlt,e,hI⟩
set_option maxHeartbeats 2000000 in
theorem r06check_any (a:Option Addr) (n c:Nat) (L:List (List Int)) (items:Nat) (w:World) (hl:IsIL w a n c L) (hg:GOk L items) :
   Calls Tryz.prog 135 #[.slice a n c,.int .i64 items] w fun e w' => e=.returned (.bool true)∧Below w.heap.size w w':=by
 obtain rfl:=hl.1
 have hn8:=hg.hn
 have hi8:=hg.hi
 have d1:decide ((8:Int)<(items:Int))=false:=decide_eq_false (by omega)
 have d2:decide ((8:Int)<(L.length:Int))=false:=decide_eq_false (by omega)
 obtain ⟨N,hN⟩:∃ N,N=L.length:=⟨_,rfl⟩
 have HN:=Lib.hid hN
 have HL:=Lib.hid hl
 have HG:=Lib.hid hg
 clear hN hl hg
 go_enter Tryz.func135,Tryz.ntmps135
 go_wp2_with fail
 go_loopw [5] (fun i wr => ∃ k:Nat,k≤L.length∧i=.int .i64 k∧Hid (Below w.heap.size w wr)) (fun i _=>N - (intOf i).toNat)
 case atStart=>exact ⟨0,Nat.zero_le _,rfl,Lib.hid (Below.refl _ _)⟩
 case round =>
   obtain ⟨k,hk,rfl,HB⟩:=hrel
   by_cases hlt:k<L.length
   · obtain ⟨b,off,x,z,rfl,hbl,hc,hI⟩:=(HL.out.below HB.out).at hlt
     have HI:=Lib.hid hI
     clear hI
     go_wp2_with fail
     refine (rrises_any x L[k].length z L[k] items wr HI.out (HG.out.hl _ (List.getElem_mem hlt)) hi8).mono ?_
     rintro e w2 ⟨rfl,hb2⟩
     have HB2:Hid (Below w.heap.size w w2):=Lib.hid (HB.out.trans (hb2.mono HB.out.size))
     clear hb2 hc
     go_wp2_with fail
     go_roundw
     case rel=>exact ⟨k+1,by omega,by go_num,HB2⟩
     case measure=>have:=HN.out;simp [intOf];omega
   · have hkk:k=L.length:=by omega
     subst hkk
     go_wp2_with fail
     go_ret
     exact ⟨rfl,HB.out⟩
def IsT (w:World) (a:Option Addr) (n c:Nat) (l:List Int):Prop:=IsI w a n c l∧∀ b off,a=some ⟨b,off,none⟩→b<w.heap.size∧∃ C,w.heap[b]?=some (.cells C 3 (0,0))
theorem IsT.keep {w w':World} {a:Option Addr} {n c:Nat} {l:List Int} (h:IsT w a n c l) (hs:w.heap.size≤w'.heap.size) (hh:∀ b C,b<w.heap.size→w.heap[b]?=some (.cells C 3 (0,0))→w'.heap[b]?=some (.cells C 3 (0,0))):IsT w' a n c l:=by
 obtain ⟨⟨h1,h2,h3,h4⟩,h5⟩:=h
 refine ⟨⟨h1,h2,h3,?_⟩,fun b off e => ?_⟩
 · rcases h4 with h4 | ⟨b,off,rfl,hlt,hc⟩
   · exact .inl h4
   · obtain ⟨_,C,hC⟩:=h5 b off rfl
     refine .inr ⟨b,off,rfl,Nat.lt_of_lt_of_le hlt hs,fun i hi => ?_⟩
     rw [cell_of_block (hh b C hlt hC),← cell_of_block hC];exact hc i hi
 · obtain ⟨hlt,C,hC⟩:=h5 b off e
   exact ⟨Nat.lt_of_lt_of_le hlt hs,C,hh b C hlt hC⟩
theorem IsT.below {w w':World} {a:Option Addr} {n c:Nat} {l:List Int} (h:IsT w a n c l) (hb:Below w.heap.size w w'):IsT w' a n c l:=h.keep hb.size (fun b C hlt hC=>below_heap hb hC hlt)
theorem IsT.nil (w:World):IsT w none 0 0 []:=⟨IsI.nil w,fun b off e=>by cases e⟩
theorem isT_of_owns {w:World} {base n:Nat} {a:Option Addr} {m c:Nat} {l:List Int} (h:w.ownsRow base 3 1 (.slice a m c) n (icells l)) (hn:n=l.length):IsT w a m c l:=by
 refine ⟨isI_of_owns h hn,fun b off e => ?_⟩
 subst e
 obtain ⟨g,hg⟩:∃ g,(Value.slice (some ⟨b,off,none⟩) m c).ownBlock=some g:=⟨_,rfl⟩
 have hgb:g=b:=by cases hg;rfl
 obtain ⟨cur,hcu⟩:=owns_block h hg
 rw [hgb] at hcu
 exact ⟨lt_of_heap hcu,cur,hcu⟩
def IIT (w:World) (vs:List Value) (L:List (List Int)):Prop:=vs.length=L.length∧∀ i (h:i<L.length),∃ x y z,vs[i]?=some (.slice x y z)∧IsT w x y z L[i]
theorem IIT.nil (w:World):IIT w [] []:=⟨rfl,fun i h=>by simp at h⟩
theorem IIT.keep {w w':World} {vs:List Value} {L:List (List Int)} (h:IIT w vs L) (hs:w.heap.size≤w'.heap.size) (hh:∀ b C,b<w.heap.size→w.heap[b]?=some (.cells C 3 (0,0))→w'.heap[b]?=some (.cells C 3 (0,0))):IIT w' vs L :=
 ⟨h.1,fun i hi=>by obtain ⟨x,y,z,e,hI⟩:=h.2 i hi;exact ⟨x,y,z,e,hI.keep hs hh⟩⟩
theorem IIT.below {w w':World} {vs:List Value} {L:List (List Int)} (h:IIT w vs L) (hb:Below w.heap.size w w'):IIT w' vs L:=h.keep hb.size (fun b C hlt hC=>below_heap hb hC hlt)
theorem IIT.snoc {w:World} {vs:List Value} {L:List (List Int)} (h:IIT w vs L) {x:Option Addr} {y z:Nat} {l:List Int} (hl:IsT w x y z l):IIT w (vs ++ [.slice x y z]) (L ++ [l]):=by
 refine ⟨by simp [h.1],fun i hi => ?_⟩
 by_cases hlt:i<L.length
 · obtain ⟨x',y',z',e,hI⟩:=h.2 i hlt
   exact ⟨x',y',z',by rw [List.getElem?_append_left (by rw [h.1];exact hlt)];exact e,by rw [List.getElem_append_left hlt];exact hI⟩
 · have hil:i=L.length:=by simp at hi;omega
   subst hil
   refine ⟨x,y,z,by rw [List.getElem?_append_right (by rw [h.1];exact Nat.le_refl _),h.1];simp,?_⟩
   rw [List.getElem_append_right (Nat.le_refl _)]
   simpa using hl
def Gr (B:Nat) (w:World) (a:Option Addr) (k c:Nat) (vs:List Value) (L:List (List Int)):Prop:=w.ownsRow B 22 1 (.slice a k c) k vs∧IIT w vs L
theorem Gr.nil (B:Nat) (w:World):Gr B w none 0 0 [] []:=⟨World.ownsRow_nil _ _ _ _,IIT.nil w⟩
theorem Gr.below {B:Nat} {w w':World} {a:Option Addr} {k c:Nat} {vs:List Value} {L:List (List Int)} (h:Gr B w a k c vs L) (hb:Below w.heap.size w w'):Gr B w' a k c vs L:=⟨owns_below h.1 hb,h.2.below hb⟩
theorem Gr.isIL {B:Nat} {w:World} {a:Option Addr} {k c:Nat} {vs:List Value} {L:List (List Int)} (h:Gr B w a k c vs L) (hk:k=L.length):IsIL w a k c L:=by
 obtain ⟨h1,h2,h3⟩:=h
 have h0:=h1
 rcases h1.2 with ⟨hv,hx⟩ | ⟨g,cap,cur,hv,hb,hg,hnc,hcm,hcs,htk⟩
 · obtain ⟨e1,e2,e3⟩:=Value.slice.inj hv
   have:L=[]:=List.eq_nil_of_length_eq_zero (by omega)
   exact ⟨hk,by rw [this,e3];simp,by rw [e3];unfold maxLen;omega,.inl this⟩
 · obtain ⟨e1,e2,e3⟩:=Value.slice.inj hv
   subst e1 e3
   refine ⟨hk,by omega,hcm,.inr ⟨g,0,rfl,lt_of_heap hg,fun i hi => ?_⟩⟩
   obtain ⟨x,y,z,e,hI⟩:=h3 i hi
   exact ⟨x,y,z,by rw [Nat.zero_add];exact cells_of_owns h0 _ _ e,hI.1⟩
theorem Gr.push {B:Nat} {w w7:World} {a b7:Option Addr} {k c c7:Nat} {vs:List Value} {L:List (List Int)} (h:Gr B w a k c vs L) {x:Option Addr} {y z:Nat} {l:List Int} (hl:IsT w x y z l)
   (hg:(w.alloc (.cells #[.slice x y z] 22 (0,0))).grownBy w7 (Value.slice a k c).ownBlock) (ho:w7.ownsRow B 22 1 (.slice b7 (k+1) c7) (k+1) (vs ++ [.slice x y z])):Gr B w7 b7 (k+1) c7 (vs ++ [.slice x y z]) (L ++ [l]):=by
 have hA:Below w.heap.size w (w.alloc (.cells #[.slice x y z] 22 (0,0))):=(Below.refl _ _).alloc (Nat.le_refl _) _
 refine ⟨ho,(h.2.snoc hl).keep (Nat.le_trans hA.size hg.size) (fun b C hlt hC => ?_)⟩
 have h1:=below_heap hA hC hlt
 refine (hg.block b (lt_of_heap h1) (fun e => ?_)).trans h1
 obtain ⟨cur,hcu⟩:=owns_block h.1 e.symm
 rw [hC] at hcu
 have:=(Obj.cells.inj (Option.some.inj hcu)).2.1
 revert this;decide
theorem Gr.pushB {B:Nat} {w0 w w7:World} {a:Option Addr} {k c:Nat} {vs:List Value} {L:List (List Int)} (h:Gr B w a k c vs L) (hb:Below B w0 w) (hB:B≤w.heap.size) {x:Option Addr} {y z:Nat}
   (hg:(w.alloc (.cells #[.slice x y z] 22 (0,0))).grownBy w7 (Value.slice a k c).ownBlock):Below B w0 w7 :=
 (hb.alloc hB _).grown hg (by simp;omega) (fun j hj=>owns_base h.1 j hj)
end Go.Proofs.YtmmmjohoihpbeaaGreat
