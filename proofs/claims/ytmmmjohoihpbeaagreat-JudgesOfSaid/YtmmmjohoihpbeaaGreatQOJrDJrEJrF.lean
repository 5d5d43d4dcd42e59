/- The document's weights (10): Check,best,Best;conditions: those typed. -/
import Derived.Test.YtmmmjohoihpbeaaGreatQOJrAJrT
import Derived.Test.YtmmmjohoihpbeaaGreatQOJwMbJmhJwMcJmjJrHJmk
import Derived.Test.YtmmmjohoihpbeaaGreatQOJwRJwTJwUJwSJwH
import Derived.Test.YtmmmjohoihpbeaaGreatQOJwGaJwFiJwFf
import Derived.Test.YtmmmjohoihpbeaaGreatQOJrBJrCJrW
import Derived.Test.YtmmmjohoihpbeaaGreatQOJmiJwOfJwEvJwVw
namespace Go.Proofs.YtmmmjohoihpbeaaGreat
section
open Go.RowKit Go.Shelf
set_option linter.unusedVariables false
set_option linter.unusedSimpArgs false
attribute [local go_sem] Oper.semAt_some
set_option maxRecDepth 100000 in
set_option maxHeartbeats 8000000 in
theorem r10check_any (a:Option Addr) (n c:Nat) (G:List (List Int)) (K:Nat) (w:World) (h:IsIL w a n c G) (hg:GnOk G K) :
   Calls Tryz.prog 61 #[.slice a n c,.int .i64 (K:Int)] w fun e w' => e=.returned (.bool true)∧w=w':=by
 obtain rfl:=h.1
 have hk1:=hg.k1
 have hk8:=hg.k8
 have hn8:=hg.n8
 have d1:decide ((K:Int)<1)=false:=decide_eq_false (by omega)
 have d2:decide ((8:Int)<(K:Int))=false:=decide_eq_false (by omega)
 have d3:decide ((8:Int)<(G.length:Int))=false:=decide_eq_false (by omega)
 have HI:=Lib.hid h
 have HG:=Lib.hid hg
 obtain ⟨N,hN⟩:∃ N,N=G.length:=⟨_,rfl⟩
 have HN:=Lib.hid hN
 clear h hg hN
 go_enter Tryz.func61,Tryz.ntmps61
 go_wp2_with fail
 go_loop [5,6] (fun i k => ∃ j:Nat,j≤G.length∧i=.int .i64 (j:Int)) (fun i _=>N - (intOf i).toNat)
 case atStart=>exact ⟨0,Nat.zero_le _,rfl⟩
 case round =>
   obtain ⟨j,hj,rfl⟩:=hrel
   by_cases hlt:j<G.length
   · obtain ⟨b,off,x,z,rfl,hbl,hc,hI⟩:=HI.out.at hlt
     obtain ⟨hrl,hrb⟩:=HG.out.row _ (List.getElem_mem hlt)
     have HR:=Lib.hid hI
     have HRB:=Lib.hid hrb
     generalize G[j]=row at hc HR HRB hrl
     subst hrl
     clear hI hrb
     go_wp2_with fail
     go_loop [6] (fun k => ∃ q:Nat,q≤row.length∧k=.int .i64 (q:Int)) (fun k=>row.length - (intOf k).toNat)
     case atStart=>exact ⟨0,Nat.zero_le _,rfl⟩
     case round =>
       obtain ⟨q,hq,rfl⟩:=hrel
       by_cases hlq:q<row.length
       · obtain ⟨b2,o2,rfl,hb2,c2⟩:=HR.out.at q hlq
         have hzb:=HRB.out _ (List.getElem_mem hlq)
         have e1:decide (row[q] < -1000000)=false:=decide_eq_false (by omega)
         have e2:decide ((1000000:Int)<row[q])=false:=decide_eq_false (by omega)
         generalize row[q]=y at c2 e1 e2 hzb
         go_wp2_with fail
         go_round
         case rel=>exact ⟨q+1,by omega,by go_num⟩
         case measure=>simp [intOf];omega
       · have hqq:q=row.length:=by omega
         subst hqq
         go_wp2_with fail
         go_round
         case rel=>exact ⟨j+1,by omega,by go_num⟩
         case measure=>have:=HN.out;simp [intOf];omega
   · have hjj:j=G.length:=by omega
     subst hjj
     go_wp2_with fail
     go_ret
     exact ⟨rfl,rfl⟩
theorem xor_i64 (a b:Nat) (ha:a<9223372036854775808) (hb:b<9223372036854775808):bits .xor .i64 (a:Int) (b:Int)=((a ^^^ b:Nat):Int):=by
 have hx:a ^^^ b<2 ^ 63:=Nat.xor_lt_two_pow (by omega) (by omega)
 show IntKind.i64.wrap ((BitVec.ofInt 64 (a:Int) ^^^ BitVec.ofInt 64 (b:Int)).toNat:Int)=_
 rw [BitVec.toNat_xor,bv_nat a (by omega),bv_nat b (by omega)]
 exact IntWalk.i64_in _ (by omega)
set_option maxRecDepth 100000 in
set_option maxHeartbeats 8000000 in
theorem r10best_any (a:Option Addr) (n c:Nat) (G:List (List Int)) (K:Nat) (w:World) (h:IsIL w a n c G) (hg:GnOk G K) :
   Calls Tryz.prog 62 #[.slice a n c,.int .i64 (K:Int)] w fun e w' => e=.returned (.int .i64 (bestV G.length K (gL G)))∧Below w.heap.size w w':=by
 obtain rfl:=h.1
 have hk1:=hg.k1
 have hk8:=hg.k8
 have hn8:=hg.n8
 have HI:=Lib.hid h
 have HG:=Lib.hid hg
 obtain ⟨N,hN⟩:∃ N,N=G.length:=⟨_,rfl⟩
 have HN:=Lib.hid hN
 obtain ⟨P2,hP2⟩:∃ P2:Nat,P2=2 ^ K:=⟨_,rfl⟩
 have hpl:P2≤256:=by rw [hP2];exact Nat.le_trans (Nat.pow_le_pow_right (by decide) hk8) (by decide)
 have hp1:1≤P2:=by rw [hP2];exact Nat.two_pow_pos K
 have hsh:wrap64 ((2:Int) ^ K)=(P2:Int):=by rw [hP2];exact pow_i64 _ (by omega)
 have HP2:=Lib.hid hP2
 have hmi:=make_ints P2 (by omega)
 clear h hg hN hP2
 go_enter Tryz.func62,Tryz.ntmps62
 go_wp2_with fail
 have hb0:Below w.heap.size w (w.alloc (.cells (fnA P2 (fun _=>0)) 3 (0,0))):=(Below.refl _ _).alloc (Nat.le_refl _) _
 have hf0:HdF (w.alloc (.cells (fnA P2 (fun _=>0)) 3 (0,0))) w.heap.size P2 (JM.rB (gL G) K 0):=⟨_,heap_new w _,by rw [fnA_size];exact Nat.le_refl _,fun i hi=>by rw [fnA_get _ hi];rfl⟩
 generalize (w.alloc (.cells (fnA P2 (fun _=>0)) 3 (0,0)))=W at hb0 hf0 ⊢
 have HB0:=Lib.hid hb0
 have HF0:Hid (IsI W (some ⟨w.heap.size,0,none⟩) P2 P2 ((List.range P2).map (JM.rB (gL G) K 0))):=Lib.hid (hf0.isI (Nat.le_refl _) (by unfold maxLen;omega))
 clear hb0 hf0 hmi
 try rw [hsh]
 go_loopw [5,6,7,8,9] (fun v i n s k wr => ∃ (j:Nat) (ha:Option Addr) (hc:Nat),j≤G.length∧i=.int .i64 (j:Int)∧v=.slice ha P2 hc∧Hid (IsI wr ha P2 hc ((List.range P2).map (JM.rB (gL G) K j)))∧Hid (Below w.heap.size w wr)) (fun _ i _ _ _ _=>N - (intOf i).toNat)
 case atStart=>exact ⟨0,_,_,Nat.zero_le _,rfl,rfl,HF0,HB0⟩
 case round =>
   obtain ⟨j,ha,hc,hj,rfl,rfl,HJ,HB⟩:=hrel
   by_cases hlt:j<G.length
   · obtain ⟨V,rfl⟩:∃ V,V=wr:=⟨_,rfl⟩
     have HL:Hid (((List.range P2).map (JM.rB (gL G) K j)).length=P2):=Lib.hid (by simp)
     have HLG:Hid (∀ x,x<P2→((List.range P2).map (JM.rB (gL G) K j)).getD x 0=JM.rB (gL G) K j x):=Lib.hid (fun x hx=>by rw [getD_get (by simpa using hx)];simp)
     generalize hLL:(List.range P2).map (JM.rB (gL G) K j)=L at HJ HL HLG
     clear hLL
     go_wp2_with (at_builtin
                  refine wpList_append_any rowInt rfl (.const (.slice none 0 0)) (.tmp 20) rfl V.heap.size (.slice none 0 0) 0 [] rfl (World.ownsRow_nil _ _ _ _) ha P2 hc (icells L) rfl (by rw [icells_length,HL.out,Nat.mul_one]) HJ.out.at' (icells_one _) (by unfold maxLen;omega) (by omega) (Nat.le_refl _) ?_
                  intro g7 c7 w7 ho7 hg7 _
                  have hb7:Below V.heap.size V w7:=(Below.refl _ _).grown hg7 (Nat.le_refl _) (fun k hk=>by cases hk)
                  rw [Nat.zero_add] at ho7
                  have HO7:=Lib.hid ho7
                  have HB7:=Lib.hid hb7
                  clear ho7 hg7 hb7
                  simp only [Nat.zero_add])
     obtain ⟨g,rfl⟩:∃ g,g7=some ⟨g,0,none⟩:=by
       rcases HO7.out.2 with ⟨h0,_⟩ | ⟨g,cap,cur,hv,_⟩
       · obtain ⟨_,h1,_⟩:=Value.slice.inj h0;omega
       · cases hv;exact ⟨g,rfl⟩
     have HGV:Hid (V.heap.size≤g∧P2≤c7∧c7≤maxLen):=Lib.hid ⟨owns_base HO7.out g rfl,(owns_caps HO7.out).1,(owns_caps HO7.out).2.1⟩
     have HF7:Hid (HdF w7 g P2 (midR (gL G) K j 0)):=Lib.hid ((HdF.of_owns HO7.out HL.out).congr (fun x hx=>by rw [HLG.out x hx,midR_zero]))
     have HHV:Hid (∀ W',Below V.heap.size V W'→∀ x,x<P2→∃ bh oh,ha=some ⟨bh,oh,none⟩∧bh<V.heap.size∧W'.cell? ⟨bh,oh+x,none⟩=some (.int .i64 (JM.rB (gL G) K j x))):=Lib.hid (fun W' hW x hx=>by
       obtain ⟨bh,oh,e,hlt',hcc⟩:=HJ.out.at x (by rw [HL.out];exact hx)
       refine ⟨bh,oh,e,hlt',(hW.cell (p:=⟨bh,oh+x,none⟩) hlt').trans ?_⟩
       rw [hcc,← HLG.out x hx,getD_get (by rw [HL.out];exact hx)])
     have HIX:Hid (∀ W',Below V.heap.size V W'→IsIL W' a G.length c G):=Lib.hid (fun W' hW=>HI.out.below (HB.out.trans (hW.mono HB.out.size)))
     clear HO7 HLG HL
     go_wp2_with fail
     go_loopw [8,9] (fun s k wq => ∃ x:Nat,x≤P2∧s=.int .i64 (x:Int)∧Hid (Below V.heap.size V wq∧HdF wq g P2 (midR (gL G) K j x))) (fun s _ _=>P2 - (intOf s).toNat)
     case atStart=>exact ⟨0,Nat.zero_le _,rfl,Lib.hid ⟨HB7.out,HF7.out⟩⟩
     case round =>
       obtain ⟨x,hx,rfl,HM⟩:=hrel
       by_cases hxl:x<P2
       · have HN0:Hid (Below V.heap.size V wr∧HdF wr g P2 (innR (gL G) K j x 0)):=Lib.hid ⟨HM.out.1,by rw [innR_zero];exact HM.out.2⟩
         clear HM
         go_wp2_with fail
         go_loopw [9] (fun k wq => ∃ q:Nat,q≤K∧k=.int .i64 (q:Int)∧Hid (Below V.heap.size V wq∧HdF wq g P2 (innR (gL G) K j x q))) (fun k _=>K - (intOf k).toNat)
         case atStart=>exact ⟨0,Nat.zero_le _,rfl,HN0⟩
         case round =>
           obtain ⟨q,hq,rfl,HQ⟩:=hrel
           by_cases hqk:q<K
           · obtain ⟨b3,o3,x3,z3,rfl,hb3,k3,hI3⟩:=(HIX.out wr HQ.out.1).at hlt
             obtain ⟨hrl,hrb⟩:=HG.out.row _ (List.getElem_mem hlt)
             have hjr:q<G[j].length:=by omega
             obtain ⟨b4,o4,rfl,hb4,hc4⟩:=hI3.at q hjr
             have hzb:=hrb _ (List.getElem_mem hjr)
             have hgg:gL G j q=G[j][q]:=by unfold gL;rw [getD_get hlt,getD_get hjr]
             rw [hrl] at k3
             rw [← hgg] at hc4 hzb
             generalize hgk:gL G j q=gij at hc4 hzb
             have HGG:=Lib.hid hgk
             clear hgg hgk hI3 hrb hrl
             have hx256:x<256:=by omega
             have hq8:q<8:=by omega
             have hshi:wrap64 ((2:Int) ^ q)=((2 ^ q:Nat):Int):=pow_i64 q (by omega)
             have ch:wr.cell? ⟨g,x,none⟩=some (.int .i64 (JM.mw (fun q i=>gL G i q) (JM.rB (gL G) K j) x j q)):=by rw [HQ.out.2.cell hxl,innR_at]
             have zh:wr.frozen? ⟨g,x,none⟩=false:=HQ.out.2.free x
             cases hbt:x.testBit q with
             | false =>
               have hb0:bits .and .i64 ((x:Int) / 2 ^ q) 1=0:=by rw [bit_i64 _ _ (by omega),hbt];rfl
               have HE:Hid (innR (gL G) K j x (q+1)=innR (gL G) K j x q):=Lib.hid (innR_leave _ _ _ _ _ (fun e=>by rw [hbt] at e;cases e.1))
               clear hbt hshi ch zh
               go_wp2_with fail
               go_roundw
               case rel=>exact ⟨q+1,by omega,by go_num,by rw [HE.out];exact HQ⟩
               case measure=>simp [intOf];omega
             | true =>
               have hb1:bits .and .i64 ((x:Int) / 2 ^ q) 1=1:=by rw [bit_i64 _ _ (by omega),hbt];rfl
               by_cases hg0:0≤gij
               · have d0:decide (0≤gij)=true:=decide_eq_true hg0
                 have hxx:x ^^^ 2 ^ q<P2:=by
                   rw [HP2.out]
                   exact Nat.xor_lt_two_pow (by rw [← HP2.out];exact hxl) (Nat.pow_lt_pow_right (by decide) hqk)
                 have h2q:2 ^ q<256:=Nat.lt_of_lt_of_le (Nat.pow_lt_pow_right (by decide) hq8) (by decide)
                 have han:bits .xor .i64 (x:Int) ((2 ^ q:Nat):Int)=((x ^^^ 2 ^ q:Nat):Int):=xor_i64 x (2 ^ q) (by omega) (by omega)
                 have han2:bits .xor .i64 (x:Int) (IntKind.i64.wrap ((2:Int) ^ q))=((x ^^^ 2 ^ q:Nat):Int):=by
                   have h9:IntKind.i64.wrap ((2:Int) ^ q)=((2 ^ q:Nat):Int):=by
                     rw [← hshi]
                     exact pow_wrap q hq8
                   rw [h9];exact han
                 have han3:bits .xor .i64 (x:Int) ((2:Int) ^ q)=((x ^^^ 2 ^ q:Nat):Int):=by
                   have e:((2 ^ q:Nat):Int)=(2:Int) ^ q:=by rw [Int.natCast_pow];rfl
                   rw [← e];exact han
                 obtain ⟨bh,oh,rfl,hbh,cw⟩:=HHV.out wr HQ.out.1 (x ^^^ 2 ^ q) hxx
                 have HE:Hid (innR (gL G) K j x (q+1)=updF (innR (gL G) K j x q) x (max (JM.mw (fun q i=>gL G i q) (JM.rB (gL G) K j) x j q) (JM.rB (gL G) K j (x ^^^ 2 ^ q)+gij))):=Lib.hid (by rw [innR_take _ _ _ _ _ ⟨hbt,by rw [HGG.out];exact hg0⟩,HGG.out])
                 generalize x ^^^ 2 ^ q=wx at han han2 han3 cw HE hxx
                 have hwb:=JM.rB_bd (K:=K) (g:=gL G) (fun i k=>(gL_bd HG.out i k).2) j wx
                 have hj8:(j:Int)*1000000≤8000000:=by omega
                 generalize JM.rB (gL G) K j wx=ww at cw HE hwb
                 generalize JM.mw (fun q i=>gL G i q) (JM.rB (gL G) K j) x j q=mv at ch HE
                 have hwr:IntKind.i64.wrap (ww+gij)=ww+gij:=IntWalk.i64_in _ (by omega)
                 have HS:=Lib.hid (HQ.out.2.set hxl (max mv (ww+gij)))
                 have HBS:Hid (Below V.heap.size V (wr.setCell ⟨g,x,none⟩ (.int .i64 (max mv (ww+gij))))):=Lib.hid (HQ.out.1.setCell (p:=⟨g,x,none⟩) HGV.out.1 _)
                 clear hbt hg0 h2q
                 go_wp2_with fail
                 go_region
                 go_wp2_with fail
                 go_roundw
                 case rel=>exact ⟨q+1,by omega,by go_num,Lib.hid ⟨HBS.out.drew,by rw [HE.out];exact HS.out⟩⟩
                 case measure=>simp [intOf];omega
               · have d0:decide (0≤gij)=false:=decide_eq_false hg0
                 have HE:Hid (innR (gL G) K j x (q+1)=innR (gL G) K j x q):=Lib.hid (innR_leave _ _ _ _ _ (fun e=>hg0 (by have:=e.2;rwa [HGG.out] at this)))
                 clear hbt hg0 hshi ch zh
                 go_wp2_with fail
                 go_roundw
                 case rel=>exact ⟨q+1,by omega,by go_num,by rw [HE.out];exact HQ⟩
                 case measure=>simp [intOf];omega
           · have hqq:K=q:=by omega
             subst hqq
             have HE:Hid (Below V.heap.size V wr∧HdF wr g P2 (midR (gL G) K j (x+1))):=Lib.hid ⟨HQ.out.1,by rw [← innR_full];exact HQ.out.2⟩
             go_wp2_with fail
             go_roundw
             case rel=>exact ⟨x+1,by omega,by go_num,HE⟩
             case measure=>simp [intOf];omega
       · have hxx:P2=x:=by omega
         subst hxx
         have HE:Hid (IsI wr (some ⟨g,0,none⟩) P2 c7 ((List.range P2).map (JM.rB (gL G) K (j+1)))):=Lib.hid ((HM.out.2.congr (fun i hi=>by unfold midR;rw [if_pos hi])).isI HGV.out.2.1 HGV.out.2.2)
         have HBE:Hid (Below w.heap.size w wr):=Lib.hid (HB.out.trans (HM.out.1.mono HB.out.size))
         go_wp2_with fail
         go_roundw
         case rel=>exact ⟨j+1,_,_,by omega,by go_num,rfl,HE,HBE⟩
         case measure=>have:=HN.out;simp [intOf];omega
   · have hjj:j=G.length:=by omega
     subst hjj
     obtain ⟨b9,o9,rfl,hb9,c9⟩:=HJ.out.at (P2 - 1) (by simp;omega)
     have HE:Hid (JM.rB (gL G) K G.length (P2 - 1)=bestV G.length K (gL G)):=Lib.hid (bestV_of (by rw [HP2.out];exact JM.rB_best _))
     simp only [List.getElem_map,List.getElem_range] at c9
     have e9:((P2:Int) - 1)=((P2 - 1:Nat):Int):=by omega
     rw [HE.out] at c9
     generalize hbv:bestV G.length K (gL G)=bv at c9
     have HBV:=Lib.hid hbv
     clear HE hbv
     generalize P2 - 1=q at c9 e9
     have hq:q<P2:=by omega
     go_wp2_with fail
     go_ret
     exact ⟨by rw [HBV.out];rfl,HB.out⟩
set_option maxRecDepth 100000 in
theorem r10Best_any (a:Option Addr) (n c:Nat) (G:List (List Int)) (K:Nat) (w:World) (h:IsIL w a n c G) (hg:GnOk G K) :
   Calls Tryz.prog 39 #[.slice a n c,.int .i64 (K:Int)] w fun e w' => e=.returned (.tuple #[.int .i64 (bestV G.length K (gL G)),.int .i64 0])∧Below w.heap.size w w':=by
 have HI:=Lib.hid h
 have HG:=Lib.hid hg
 clear h hg
 go_enter Tryz.func39,Tryz.ntmps39
 go_wp2_with fail
 refine (r10check_any a n c G K w HI.out HG.out).mono ?_
 rintro e w1 ⟨rfl,rfl⟩
 go_wp2_with fail
 refine (r10best_any a n c G K w HI.out HG.out).mono ?_
 rintro e w2 ⟨rfl,hb2⟩
 have HB2:=Lib.hid hb2
 clear hb2
 generalize hbv:bestV G.length K (gL G)=bv
 have HBV:=Lib.hid hbv
 clear hbv
 go_wp2_with fail
 go_ret2
 exact ⟨by rw [HBV.out];rfl,HB2.out⟩
end
section
open Go.RowKit Go.Shelf
set_option linter.unusedVariables false
set_option linter.unusedSimpArgs false
attribute [local go_sem] Oper.semAt_some
theorem HdF.isT {w:World} {g N c:Nat} {f:Nat→Int} (h:HdF w g N f) (hc:N≤c) (hm:c≤maxLen):IsT w (some ⟨g,0,none⟩) N c ((List.range N).map f):=by
 refine ⟨h.isI hc hm,fun b off e => ?_⟩
 cases e
 obtain ⟨C,h1,_⟩:=h
 exact ⟨lt_of_heap h1,C,h1⟩
def VsB (B:Nat) (vs:List Value):Prop:=∀ b off y z,Value.slice (some ⟨b,off,none⟩) y z ∈ vs→B≤b
theorem VsB.nil (B:Nat):VsB B []:=fun b off y z h=>by cases h
theorem VsB.snoc {B:Nat} {vs:List Value} (h:VsB B vs) {x:Option Addr} {n c:Nat} (hx:∀ b off,x=some ⟨b,off,none⟩→B≤b):VsB B (vs ++ [.slice x n c]):=fun b off y z hm=>by
 rcases List.mem_append.1 hm with hm | hm
 · exact h b off y z hm
 · rw [List.mem_singleton] at hm
   exact hx b off (Value.slice.inj hm).1.symm
theorem owns_low2 {w:World} {B e n c:Nat} {a:Option Addr} {xs:List Value} (h:w.ownsRow B e 1 (.slice a n c) n xs):∀ b off,a=some ⟨b,off,none⟩→B≤b:=fun b off e=>by
 subst e
 exact owns_base h b rfl
theorem Gr.setRow {B:Nat} {w:World} {g k c i:Nat} {vs:List Value} {L:List (List Int)} (h:Gr B w (some ⟨g,0,none⟩) k c vs L) (hi:i<L.length) {x:Option Addr} {y z:Nat} {l:List Int} (hl:IsT w x y z l):Gr B (w.setCell ⟨g,i,none⟩ (.slice x y z)) (some ⟨g,0,none⟩) k c (vs.set i (.slice x y z)) (L.set i l):=by
 obtain ⟨h1,h2⟩:=h
 rcases h1.2 with ⟨hv,_⟩ | ⟨g',cap,cur,hv,hb,hg,hnc,hcm,hcs,htk⟩
 · cases hv
 · cases hv
   have hs:=heap_setCell_same w g i _ _ (.slice x y z) hg
   have ht:Touch (fun k=>k=g) w (w.setCell ⟨g,i,none⟩ (.slice x y z)):=(Touch.refl _ _).setCell _ _ (.inl rfl)
   have hk:∀ b C,b<w.heap.size→w.heap[b]?=some (.cells C 3 (0,0))→(w.setCell ⟨g,i,none⟩ (.slice x y z)).heap[b]?=some (.cells C 3 (0,0)):=fun b C _ hC=>ht.heap hC (fun e=>by
     rw [e,hg] at hC
     have:=(Obj.cells.inj (Option.some.inj hC)).2.1
     revert this;decide)
   refine ⟨⟨by simpa using h1.1,.inr ⟨g,c,_,rfl,hb,hs,hnc,hcm,by simpa using hcs,?_⟩⟩,by simp [h2.1],fun q hq => ?_⟩
   · rw [← htk]
     simp [List.take_set]
   · have hq':q<L.length:=by simpa using hq
     by_cases e:i=q
     · subst e
       exact ⟨x,y,z,by rw [List.getElem?_set_self (by rw [h2.1];exact hi)],by rw [List.getElem_set_self];exact hl.keep ht.size hk⟩
     · obtain ⟨x',y',z',e1,hI⟩:=h2.2 q hq'
       exact ⟨x',y',z',by rw [List.getElem?_set_ne e];exact e1,by rw [List.getElem_set_ne e];exact hI.keep ht.size hk⟩
theorem VsB.set {B i:Nat} {vs:List Value} (h:VsB B vs) {x:Option Addr} {n c:Nat} (hx:∀ b off,x=some ⟨b,off,none⟩→B≤b):VsB B (vs.set i (.slice x n c)):=fun b off y z hm=>by
 rcases List.mem_or_eq_of_mem_set hm with hm | hm
 · exact h b off y z hm
 · exact hx b off (Value.slice.inj hm).1.symm
theorem map_updF (l:List Int) (k:Nat) (v:Int):(List.range l.length).map (updF (fun i=>l.getD i 0) k v)=l.set k v:=by
 apply List.ext_getElem
 · simp
 · intro i h1 h2
   have h3:i<l.length:=by simpa using h1
   rw [List.getElem_set]
   simp only [List.getElem_map,List.getElem_range]
   unfold updF
   by_cases e:i=k
   · subst e;simp
   · rw [if_neg e,if_neg (fun h=>e h.symm)];exact getD_get h3
set_option maxHeartbeats 4000000 in
theorem r11nothing_any (K:Nat) (w:World) (hK:K≤8) :
   Calls Tryz.prog 88 #[.int .i64 (K:Int)] w fun e w' => ∃ a c,e=.returned (.slice a K c)∧Below w.heap.size w w'∧IsT w' a K c (List.replicate K (-1))∧∀ b off,a=some ⟨b,off,none⟩→w.heap.size≤b:=by
 go_enter Tryz.func88,Tryz.ntmps88
 go_wp2_with fail
 go_loopw [3,4] (fun v i wr => ∃ (k:Nat) (a:Option Addr) (c:Nat),k≤K∧i=.int .i64 (k:Int)∧v=.slice a k c∧Hid (wr.ownsRow w.heap.size 3 1 (.slice a k c) k (icells (List.replicate k (-1)))∧Below w.heap.size w wr)) (fun _ i _=>K - (intOf i).toNat)
 case atStart=>exact ⟨0,none,0,Nat.zero_le _,rfl,rfl,Lib.hid ⟨World.ownsRow_nil _ _ _ _,Below.refl _ _⟩⟩
 case round =>
   obtain ⟨k,a,c,hk,rfl,rfl,HQ⟩:=hrel
   have ho:=HQ.out.1
   have hbw:=HQ.out.2.size
   by_cases hlt:k<K
   · have HE:Hid (List.replicate (k+1) (-1:Int)=List.replicate k (-1) ++ [(-1:Int)]):=Lib.hid (List.replicate_succ')
     generalize List.replicate k (-1:Int)=L at HE ho HQ
     go_wp2_with (at_builtin
                  refine wpList_append_any rowInt rfl (.tmp 10) (.tmp 11) rfl w.heap.size (.slice a k c) k (icells L) rfl (ho.alloc _) (some ⟨wr.heap.size,0,none⟩) 1 1 [.int .i64 (-1)] rfl rfl (At.one wr _ _) (one_cell _ rfl) (by unfold maxLen;omega) (by omega) (by simp;omega) ?_
                  intro b7 c7 w7 ho7 hg7 _
                  have HB7:=Lib.hid ((HQ.out.2.alloc HQ.out.2.size _).grown hg7 (by simp;omega) (fun k hk=>owns_base ho k hk))
                  have HO7:=Lib.hid ho7
                  clear ho7 hg7)
     go_roundw
     case rel=>exact ⟨k+1,b7,c7,by omega,by go_num,rfl,by rw [HE.out,icells_append];exact Lib.hid ⟨HO7.out,HB7.out⟩⟩
     case measure=>simp [intOf];omega
   · have hkk:K=k:=by omega
     subst hkk
     go_wp2_with fail
     go_ret
     exact ⟨a,c,rfl,HQ.out.2,isT_of_owns ho (by simp),owns_low2 ho⟩
set_option maxRecDepth 100000 in
set_option maxHeartbeats 8000000 in
theorem r11without_any (a:Option Addr) (n c:Nat) (G:List (List Int)) (K k:Nat) (w:World) (h:IsIL w a n c G) (hg:GnOk G K) (hk:k<K) :
   Calls Tryz.prog 89 #[.slice a n c,.int .i64 (k:Int)] w fun e w' => ∃ a' c' vs,e=.returned (.slice a' G.length c')∧Below w.heap.size w w'∧Gr w.heap.size w' a' G.length c' vs (G.map fun r=>r.set k (-1))∧VsB w.heap.size vs:=by
 obtain rfl:=h.1
 have hk1:=hg.k1
 have hk8:=hg.k8
 have hn8:=hg.n8
 have HI:=Lib.hid h
 have HG:=Lib.hid hg
 obtain ⟨N,hN⟩:∃ N,N=G.length:=⟨_,rfl⟩
 have HN:=Lib.hid hN
 clear h hg hN
 go_enter Tryz.func89,Tryz.ntmps89
 go_wp2_with fail
 go_loopw [5,6,7] (fun v i l wr => ∃ (j:Nat) (a':Option Addr) (c':Nat),j≤G.length∧i=.int .i64 (j:Int)∧v=.slice a' j c'∧Hid (∃ vs,Gr w.heap.size wr a' j c' vs ((G.map fun r=>r.set k (-1)).take j)∧VsB w.heap.size vs)∧Hid (Below w.heap.size w wr)) (fun _ i _ _=>N - (intOf i).toNat)
 case atStart=>exact ⟨0,none,0,Nat.zero_le _,rfl,rfl,Lib.hid ⟨[],Gr.nil _ _,VsB.nil _⟩,Lib.hid (Below.refl _ _)⟩
 case round =>
   obtain ⟨j,a',c',hj,rfl,rfl,HGX,HB⟩:=hrel
   obtain ⟨vs,hgr,hvb⟩:=HGX.out
   have HGR:=Lib.hid hgr
   have HVB:=Lib.hid hvb
   clear hgr hvb
   by_cases hlt:j<G.length
   · obtain ⟨b,off,x,z,rfl,hbl,hc,hI⟩:=(HI.out.below HB.out).at hlt
     obtain ⟨hrl,_⟩:=HG.out.row _ (List.getElem_mem hlt)
     have HR:=Lib.hid hI
     have HTK:Hid ((G.map fun r=>r.set k (-1)).take (j+1)=(G.map fun r=>r.set k (-1)).take j ++ [G[j].set k (-1)]):=Lib.hid (by
       rw [List.take_succ_eq_append_getElem (by simpa using hlt)];simp)
     have hbw:=HB.out.size
     generalize G[j]=row at hc HR HTK hrl
     subst hrl
     clear hI
     go_wp2_with (at_builtin
                  first
                    | (refine wpList_append_any rowInt rfl (.const (.slice none 0 0)) (.tmp 17) rfl wr.heap.size (.slice none 0 0) 0 [] rfl (World.ownsRow_nil _ _ _ _) x row.length z (icells row) rfl (by rw [icells_length,Nat.mul_one]) HR.out.at' (icells_one _) (by unfold maxLen;omega) (by omega) (Nat.le_refl _) ?_
                       intro g7 c7 w7 ho7 hg7 _
                       have hb7:Below wr.heap.size wr w7:=(Below.refl _ _).grown hg7 (Nat.le_refl _) (fun k hk=>by cases hk)
                       rw [Nat.zero_add,List.nil_append] at ho7
                       obtain ⟨g,rfl⟩:∃ g,g7=some ⟨g,0,none⟩:=(by
                         rcases ho7.2 with ⟨h0,_⟩ | ⟨g,cap,cur,hv,_⟩
                         · obtain ⟨_,h1,_⟩:=Value.slice.inj h0;omega
                         · cases hv;exact ⟨g,rfl⟩)
                       have hf7:=HdF.of_owns ho7 rfl
                       have ck:=hf7.cell hk
                       have zk:=hf7.free k
                       have hfs:=hf7.set hk (-1)
                       have hbs:Below wr.heap.size wr (w7.setCell ⟨g,k,none⟩ (.int .i64 (-1))):=hb7.setCell (p:=⟨g,k,none⟩) (owns_base ho7 g rfl) _
                       have HT:Hid (IsT (w7.setCell ⟨g,k,none⟩ (.int .i64 (-1))) (some ⟨g,0,none⟩) row.length c7 (row.set k (-1))):=Lib.hid (by
                         have:=hfs.isT (owns_caps ho7).1 (owns_caps ho7).2.1
                         rwa [map_updF] at this)
                       have HG7:=Lib.hid (HGR.out.below hbs)
                       have HB7:Hid (Below w.heap.size w (w7.setCell ⟨g,k,none⟩ (.int .i64 (-1)))):=Lib.hid (HB.out.trans (hbs.mono HB.out.size))
                       have hgo:=HG7.out.1
                       have hbz:=HB7.out.size
                       have HGL:Hid (w.heap.size≤g):=Lib.hid (Nat.le_trans hbw (owns_base ho7 g rfl))
                       have hat8:Hid (At ((w7.setCell ⟨g,k,none⟩ (.int .i64 (-1))).alloc (.cells #[.slice (some ⟨g,0,none⟩) row.length c7] 22)) (some ⟨w7.heap.size,0,none⟩) [.slice (some ⟨g,0,none⟩) row.length c7]):=Lib.hid (by
                         have:=At.one (w7.setCell ⟨g,k,none⟩ (.int .i64 (-1))) (.slice (some ⟨g,0,none⟩) row.length c7) 22
                         rwa [show (w7.setCell ⟨g,k,none⟩ (.int .i64 (-1))).heap.size=w7.heap.size by simp] at this)
                       simp only [Nat.zero_add]
                       clear ho7 hg7 hb7 hf7 hfs hbs)
                    | (refine wpList_append_any rowII rfl (.tmp 22) (.tmp 24) rfl w.heap.size (.slice a' j c') j vs rfl (hgo.alloc _) (some ⟨w7.heap.size,0,none⟩) 1 1 [.slice (some ⟨g,0,none⟩) row.length c7] rfl rfl hat8.out (one_cell _ rfl) (by unfold maxLen;omega) (by omega) (Nat.le_trans hbz (by simp)) ?_
                       intro b8 c8 w8 ho8 hg8 _
                       have HB8:=Lib.hid (HG7.out.pushB HB7.out hbz hg8)
                       have HG8:Hid (∃ vs,Gr w.heap.size w8 b8 (j+1) c8 vs ((G.map fun r=>r.set k (-1)).take (j+1))∧VsB w.heap.size vs):=Lib.hid ⟨_,by rw [HTK.out];exact HG7.out.push HT.out hg8 ho8,HVB.out.snoc (fun b off e=>by cases e;exact HGL.out)⟩
                       clear ho8 hg8))
     go_roundw
     case rel=>exact ⟨j+1,b8,c8,by omega,by go_num,rfl,HG8,HB8⟩
     case measure=>have:=HN.out;simp [intOf];omega
   · have hjj:j=G.length:=by omega
     subst hjj
     have HGF:Hid (Gr w.heap.size wr a' G.length c' vs (G.map fun r=>r.set k (-1))):=Lib.hid (by
       have:=HGR.out
       rwa [List.take_of_length_le (by simp)] at this)
     go_wp2_with fail
     go_ret
     exact ⟨a',c',vs,rfl,HB.out,HGF.out,HVB.out⟩
theorem IsT.touch {S:Nat→Prop} {w w':World} {a:Option Addr} {n c:Nat} {l:List Int} (h:IsT w a n c l) (ht:Touch S w w') (hs:∀ b off,a=some ⟨b,off,none⟩→¬ S b):IsT w' a n c l:=by
 refine ⟨h.1.touch ht (fun b off e _=>hs b off e),fun b off e => ?_⟩
 obtain ⟨hlt,C,hC⟩:=h.2 b off e
 exact ⟨Nat.lt_of_lt_of_le hlt ht.size,C,ht.heap hC (hs b off e)⟩
theorem Gr.lower {B B':Nat} {w:World} {a:Option Addr} {k c:Nat} {vs:List Value} {L:List (List Int)} (h:Gr B w a k c vs L) (hB:B'≤B):Gr B' w a k c vs L:=⟨owns_lower h.1 hB,h.2⟩
theorem VsB.lower {B B':Nat} {vs:List Value} (h:VsB B vs) (hB:B'≤B):VsB B' vs:=fun b off y z hm=>Nat.le_trans hB (h b off y z hm)
theorem Gr.touchLow {S:Nat→Prop} {B:Nat} {w w':World} {a:Option Addr} {k c:Nat} {vs:List Value} {L:List (List Int)} (h:Gr B w a k c vs L) (hv:VsB B vs) (ht:Touch S w w') (hS:∀ k,S k→k<B):Gr B w' a k c vs L:=by
 refine ⟨owns_touch h.1 ht (fun k hk hk' => ?_),h.2.1,fun i hi => ?_⟩
 · have:=owns_base h.1 k hk
   have:=hS k hk'
   omega
 · obtain ⟨x,y,z,e,hI⟩:=h.2.2 i hi
   refine ⟨x,y,z,e,hI.touch ht (fun b off e2 hb => ?_)⟩
   subst e2
   have:=hv b off y z (List.mem_of_getElem? e)
   have:=hS b hb
   omega
end
section
open Go.RowKit Go.Shelf
set_option linter.unusedVariables false
set_option linter.unusedSimpArgs false
attribute [local go_sem] Oper.semAt_some
def leftL (n K:Nat) (g:Nat→Nat→Int) (l:List Nat) (T:Nat):List (List Int):=(List.range n).map fun i=>(List.range K).map fun k=>JM.mskG g l T i k
theorem leftL_length (n K:Nat) (g:Nat→Nat→Int) (l:List Nat) (T:Nat):(leftL n K g l T).length=n:=by simp [leftL]
theorem leftL_row {n K:Nat} {g:Nat→Nat→Int} {l:List Nat} {T i:Nat} (hi:i<n):(leftL n K g l T)[i]'(by rw [leftL_length];exact hi)=(List.range K).map fun k=>JM.mskG g l T i k:=by simp [leftL]
theorem leftL_gL {n K:Nat} {g:Nat→Nat→Int} {l:List Nat} {T i k:Nat} (hi:i<n) (hk:k<K):gL (leftL n K g l T) i k=JM.mskG g l T i k:=by
 have e1:(leftL n K g l T).getD i []=(List.range K).map fun k=>JM.mskG g l T i k:=(getD_get (by rw [leftL_length];exact hi)).trans (leftL_row hi)
 unfold gL
 rw [e1,getD_get (by simpa using hk)];simp
theorem leftL_start {G:List (List Int)} {K:Nat} (hg:GnOk G K) {l:List Nat} (hl:∀ i,i<G.length→i ∈ l):leftL G.length K (gL G) l 0=G:=by
 apply List.ext_getElem
 · simp [leftL]
 · intro i h1 h2
   rw [leftL_row h2]
   have hr:=(hg.row _ (List.getElem_mem h2)).1
   apply List.ext_getElem
   · simpa using hr.symm
   · intro k h3 h4
     have hk:k<K:=by simpa using h3
     simp only [List.getElem_map,List.getElem_range]
     unfold JM.mskG gL
     rw [if_pos ⟨hl i h2,by simp⟩,getD_get h2,getD_get h4]
theorem leftL_without {n K:Nat} {g:Nat→Nat→Int} {l:List Nat} {T k:Nat} (hk:k<K):(leftL n K g l T).map (fun r=>r.set k (-1))=leftL n K g l (T ||| 2 ^ k):=by
 unfold leftL
 rw [List.map_map]
 apply List.map_congr_left
 intro i _
 apply List.ext_getElem
 · simp
 · intro q h1 h2
   have hq:q<K:=by simpa using h2
   simp only [Function.comp,List.getElem_set,List.getElem_map,List.getElem_range]
   unfold JM.mskG
   rw [Nat.testBit_or,Nat.testBit_two_pow]
   by_cases e:k=q
   · subst e;simp
   · simp [e]
theorem leftL_take {n K:Nat} {g:Nat→Nat→Int} {i:Nat} {l:List Nat} {T:Nat} (hil:i ∉ l):(leftL n K g (i :: l) T).set i (List.replicate K (-1))=leftL n K g l T:=by
 apply List.ext_getElem
 · simp [leftL]
 · intro x h1 h2
   have hx:x<n:=by rw [leftL_length] at h2;exact h2
   rw [List.getElem_set]
   by_cases e:i=x
   · subst e
     rw [if_pos rfl,leftL_row hx]
     apply List.ext_getElem
     · simp
     · intro q h3 h4
       simp only [List.getElem_map,List.getElem_range,List.getElem_replicate]
       unfold JM.mskG
       rw [if_neg (fun h=>hil h.1)]
   · rw [if_neg e,leftL_row hx,leftL_row hx]
     apply List.map_congr_left
     intro q _
     unfold JM.mskG
     have:x ∈ i :: l↔x ∈ l:=by simp [show x≠i from fun h=>e h.symm]
     simp only [this]
theorem leftL_ok {G:List (List Int)} {K:Nat} (hg:GnOk G K) (l:List Nat) (T:Nat):GnOk (leftL G.length K (gL G) l T) K:=by
 refine ⟨hg.k1,hg.k8,by rw [leftL_length];exact hg.n8,fun r hr => ?_⟩
 obtain ⟨i,_,rfl⟩:=List.mem_map.1 hr
 refine ⟨by simp,fun z hz => ?_⟩
 obtain ⟨k,_,rfl⟩:=List.mem_map.1 hz
 unfold JM.mskG
 have:=gL_bd hg i k
 split <;> omega
theorem leftL_best {G:List (List Int)} {K:Nat} {l:List Nat} (hl:l.Nodup) (hn:∀ i ∈ l,i<G.length) (T:Nat):bestV G.length K (gL (leftL G.length K (gL G) l T))=JM.fb K (gL G) l T:=by
 rw [← JM.best_fb (n:=G.length) hl hn]
 exact bestV_congr fun i k hi hk=>leftL_gL hi hk
def FrJ (w:World) (B H:Nat) (G:List (List Int)) (K:Nat) (W0:Int) (l:List Nat) (la:Option Addr) (lc:Nat) (want:Int) (W:World):Prop :=
 ∃ T m hf vs,Below w.heap.size w W∧B≤W.heap.size∧Gr B W la G.length lc vs (leftL G.length K (gL G) l T)∧VsB B vs∧W.heap[H]?=some (.cells (fnA G.length hf) 3 (0,0))∧JM.Pick G.length K (gL G) W0 l T want m∧HasF G.length l hf m∧∀ x ∈ l,hf x = -1
theorem pick_free {n K:Nat} {g:Nat→Nat→Int} {W want:Int} {i:Nat} {l:List Nat} {T:Nat} {m:Nat→Option Nat} (h:JM.Pick n K g W (i :: l) T want m) (hi:i<n):m i=none:=Classical.byContradiction fun hne=>by
 obtain ⟨y,e⟩:=Option.ne_none_iff_exists'.1 hne
 exact (h.of i y hi e).1 List.mem_cons_self
theorem updF_self {f:Nat→Int} {i:Nat} {v:Int} (h:f i=v):updF f i v=f:=by
 funext x
 unfold updF
 by_cases e:x=i
 · subst e;rw [if_pos rfl,h]
 · rw [if_neg e]
theorem mskG_in {g:Nat→Nat→Int} {l:List Nat} {T i k:Nat} (hi:i ∈ l):JM.mskG g l T i k=if T.testBit k=false then g i k else -1:=by
 unfold JM.mskG
 by_cases h:T.testBit k=false
 · rw [if_pos ⟨hi,h⟩,if_pos h]
 · rw [if_neg (fun e=>h e.2),if_neg h]
theorem ord_count {n:Nat} {o:List Int} (h:ordC n o=true) (i:Nat) (hi:i<n):o.count (i:Int)=1:=by
 obtain ⟨_,_,o3,o4⟩:=ord_bd h
 have e1:=List.count_pos_iff.2 (o4 i hi)
 have e2:=List.nodup_iff_count.1 o3 (i:Int)
 omega
set_option maxRecDepth 100000 in
set_option maxHeartbeats 8000000 in
theorem r11first_any (a ia:Option Addr) (n c on oc:Nat) (G:List (List Int)) (K:Nat) (o:List Int) (w:World) (h:IsIL w a n c G) (hg:GnOk G K) (ho:IsI w ia on oc o) (hoo:ordC G.length o=true) :
   Calls Tryz.prog 73 #[.slice a n c,.int .i64 (K:Int),.slice ia on oc] w (FstQ G K w):=by
 obtain rfl:=h.1
 obtain rfl:=ho.1
 have hk1:=hg.k1
 have hk8:=hg.k8
 have hn8:=hg.n8
 have HOL:Hid (o.length=G.length):=Lib.hid (ord_bd hoo).1
 have HI:=Lib.hid h
 have HG:=Lib.hid hg
 have HO:=Lib.hid ho
 have HOO:=Lib.hid hoo
 have d3:((o.length:Int) != (G.length:Int))=false:=by rw [(ord_bd hoo).1];simp
 have hmi:=make_ints G.length (by omega)
 obtain ⟨N,hN⟩:∃ N,N=G.length:=⟨_,rfl⟩
 have HN:=Lib.hid hN
 clear h hg ho hoo hN
 go_enter Tryz.func73,Tryz.ntmps73
 go_wp2_with fail
 refine (r10check_any a G.length c G K w HI.out HG.out).mono ?_
 rintro e w1 ⟨rfl,rfl⟩
 go_wp2_with fail
 go_loop [8,9,10] (fun i t k => ∃ j:Nat,j≤G.length∧i=.int .i64 (j:Int)) (fun i _ _=>N - (intOf i).toNat)
 case atStart=>exact ⟨0,Nat.zero_le _,rfl⟩
 case round =>
   obtain ⟨j,hj,rfl⟩:=hrel
   by_cases hlt:j<G.length
   · have HCJ:=Lib.hid (ord_count HOO.out j hlt)
     go_wp2_with fail
     go_loop [9,10] (fun t k => ∃ q:Nat,q≤o.length∧k=.int .i64 q∧t=.int .i64 ((o.take q).count (j:Int):Nat)) (fun _ k=>N - (intOf k).toNat)
     case atStart=>exact ⟨0,Nat.zero_le _,rfl,by simp⟩
     case round =>
       obtain ⟨q,hq,rfl,rfl⟩:=hrel
       have hol8:o.length≤8:=by have:=HOL.out;omega
       by_cases hlq:q<o.length
       · obtain ⟨b2,off2,rfl,_,hcq⟩:=HO.out.at q hlq
         have hct:=count_take o (j:Int) q hlq
         have hcb:(o.take q).count (j:Int)≤8:=Nat.le_trans List.count_le_length (by rw [List.length_take];omega)
         by_cases ej:o[q]=(j:Int)
         · rw [if_pos ej] at hct
           rw [ej] at hcq
           have HCT:=Lib.hid hct
           clear hct ej
           generalize (o.take q).count (j:Int)=cq at hcb HCT ⊢
           go_wp2_with fail
           go_round
           case rel=>exact ⟨q+1,by omega,by go_num,by rw [HCT.out];go_num⟩
           case measure=>have:=HN.out;have:=HOL.out;simp [intOf];omega
         · rw [if_neg ej] at hct
           have dq:(o[q] == (j:Int))=false:=by rw [beq_eq_false_iff_ne];exact ej
           have HCT:=Lib.hid hct
           clear hct ej
           generalize o[q]=y at hcq dq
           generalize (o.take q).count (j:Int)=cq at hcb HCT ⊢
           go_wp2_with fail
           go_round
           case rel=>exact ⟨q+1,by omega,by go_num,by rw [HCT.out,Nat.add_zero]⟩
           case measure=>have:=HN.out;have:=HOL.out;simp [intOf];omega
       · have hqq:o.length=q:=by omega
         have hct:o.take q=o:=by rw [← hqq,List.take_length]
         rw [hct,HCJ.out]
         clear hct
         subst hqq
         go_wp2_with fail
         go_round
         case rel=>exact ⟨j+1,by omega,by go_num⟩
         case measure=>have:=HN.out;simp [intOf];omega
   · have hjj:G.length=j:=by omega
     subst hjj
     go_wp2_with fail
     refine (r10Best_any a G.length c G K w HI.out HG.out).mono ?_
     rintro e w2 ⟨rfl,hb2⟩
     have HB2:=Lib.hid hb2
     clear hb2
     generalize hW0:bestV G.length K (gL G)=W0
     have HW0:=Lib.hid hW0
     clear hW0
     go_wp2_with fail
     have hbA:Below w2.heap.size w2 (w2.alloc (.cells (fnA G.length (fun _=>0)) 3 (0,0))):=(Below.refl _ _).alloc (Nat.le_refl _) _
     have hvA:=heap_new w2 (.cells (fnA G.length (fun _=>0)) 3 (0,0))
     generalize (w2.alloc (.cells (fnA G.length (fun _=>0)) 3 (0,0)))=w3 at hbA hvA ⊢
     have HA:Hid (Below w2.heap.size w2 w3∧w3.heap[w2.heap.size]?=some (.cells (fnA G.length (fun x=>if x<0 then (-1:Int) else 0)) 3 (0,0))):=Lib.hid ⟨hbA,by rw [hvA];rfl⟩
     clear hbA hvA hmi
     go_loopw [14] (fun i wr => ∃ j:Nat,j≤G.length∧i=.int .i64 (j:Int)∧Hid (Below w2.heap.size w2 wr∧wr.heap[w2.heap.size]?=some (.cells (fnA G.length (fun x=>if x<j then (-1:Int) else 0)) 3 (0,0)))) (fun i _=>N - (intOf i).toNat)
     case atStart=>exact ⟨0,Nat.zero_le _,rfl,by simpa using HA⟩
     case round =>
       obtain ⟨j,hj,rfl,HJ⟩:=hrel
       by_cases hlt2:j<G.length
       · have ch:wr.cell? ⟨w2.heap.size,j,none⟩=some (.int .i64 ((fun x=>if x<j then (-1:Int) else 0) j)):=by rw [cell_of_block HJ.out.2,fnA_get _ hlt2]
         have zh:wr.frozen? ⟨w2.heap.size,j,none⟩=false:=blk_free HJ.out.2
         have HS:Hid (Below w2.heap.size w2 (wr.setCell ⟨w2.heap.size,j,none⟩ (.int .i64 (-1)))∧(wr.setCell ⟨w2.heap.size,j,none⟩ (.int .i64 (-1))).heap[w2.heap.size]?=some (.cells (fnA G.length (fun x=>if x<j+1 then (-1:Int) else 0)) 3 (0,0))):=Lib.hid ⟨HJ.out.1.setCell (p:=⟨w2.heap.size,j,none⟩) (Nat.le_refl _) _,by
           rw [heap_setCell_same wr w2.heap.size j _ _ _ HJ.out.2,fnA_set _ hlt2]
           congr 2
           apply fnA_congr
           intro x hx
           unfold updF
           by_cases e:x=j
           · subst e;rw [if_pos rfl,if_pos (by omega)]
           · rw [if_neg e]
             show (if x<j then (-1:Int) else 0)=_
             by_cases h:x<j
             · rw [if_pos h,if_pos (by omega)]
             · rw [if_neg h,if_neg (by omega)]⟩
         generalize ((fun x=>if x<j then (-1:Int) else 0) j)=old at ch
         go_wp2_with fail
         go_roundw
         case rel=>exact ⟨j+1,by omega,by go_num,HS⟩
         case measure=>have:=HN.out;simp [intOf];omega
       · have hjj:j=G.length:=by omega
         subst hjj
         have HH:Hid (Below w.heap.size w wr∧w.heap.size≤w2.heap.size∧wr.heap[w2.heap.size]?=some (.cells (fnA G.length (fun _=>(-1:Int))) 3 (0,0))):=Lib.hid ⟨HB2.out.trans (HJ.out.1.mono HB2.out.size),HB2.out.size,by rw [HJ.out.2];congr 2;exact fnA_congr (fun x hx=>by show (if x<G.length then (-1:Int) else 0) = -1;rw [if_pos hx])⟩
         obtain ⟨V,rfl⟩:∃ V,V=wr:=⟨_,rfl⟩
         generalize w2.heap.size=H at HH ⊢
         clear HJ HA
         go_wp2_with fail
         go_loopw [15,16] (fun v i wr => ∃ (j:Nat) (la:Option Addr) (lc:Nat),j≤G.length∧i=.int .i64 (j:Int)∧v=.slice la j lc∧Hid (∃ vs,Gr V.heap.size wr la j lc vs (G.take j)∧VsB V.heap.size vs)∧Hid (Below V.heap.size V wr)) (fun _ i _=>N - (intOf i).toNat)
         case atStart=>exact ⟨0,none,0,Nat.zero_le _,rfl,rfl,Lib.hid ⟨[],Gr.nil _ _,VsB.nil _⟩,Lib.hid (Below.refl _ _)⟩
         case round =>
           obtain ⟨j,la,lc,hj,rfl,rfl,HGX,HB⟩:=hrel
           obtain ⟨vs,hgr,hvb⟩:=HGX.out
           have HGR:=Lib.hid hgr
           have HVB:=Lib.hid hvb
           clear hgr hvb
           by_cases hlt3:j<G.length
           · have hbv:=HB.out.size
             obtain ⟨b,off,x,z,rfl,hbl,hc,hI⟩:=(HI.out.below (HH.out.1.trans (HB.out.mono HH.out.1.size))).at hlt3
             obtain ⟨hrl,_⟩:=HG.out.row _ (List.getElem_mem hlt3)
             have HR:=Lib.hid hI
             have HTK:=Lib.hid (List.take_succ_eq_append_getElem hlt3)
             generalize G[j]=row at hc HR HTK hrl
             subst hrl
             clear hI
             go_wp2_with (at_builtin
                          first
                            | (refine wpList_append_any rowInt rfl (.const (.slice none 0 0)) (.tmp 85) rfl wr.heap.size (.slice none 0 0) 0 [] rfl (World.ownsRow_nil _ _ _ _) x row.length z (icells row) rfl (by rw [icells_length,Nat.mul_one]) HR.out.at' (icells_one _) (by unfold maxLen;omega) (by omega) (Nat.le_refl _) ?_
                               intro g7 c7 w7 ho7 hg7 _
                               have hb7:Below wr.heap.size wr w7:=(Below.refl _ _).grown hg7 (Nat.le_refl _) (fun k hk=>by cases hk)
                               rw [Nat.zero_add,List.nil_append] at ho7
                               have HT:Hid (IsT w7 g7 row.length c7 row):=Lib.hid (isT_of_owns ho7 rfl)
                               have HG7:=Lib.hid (HGR.out.below hb7)
                               have HGL:Hid (∀ b off,g7=some ⟨b,off,none⟩→V.heap.size≤b):=Lib.hid (fun b off e=>Nat.le_trans hbv (owns_low2 ho7 b off e))
                               have HB7:Hid (Below V.heap.size V w7):=Lib.hid (HB.out.trans (hb7.mono HB.out.size))
                               have hgo:=HG7.out.1
                               have hbz:=HB7.out.size
                               simp only [Nat.zero_add]
                               clear ho7 hg7 hb7)
                            | (refine wpList_append_any rowII rfl (.tmp 81) (.tmp 87) rfl V.heap.size (.slice la j lc) j vs rfl (hgo.alloc _) (some ⟨w7.heap.size,0,none⟩) 1 1 [.slice g7 row.length c7] rfl rfl (At.one _ _ _) (one_cell _ rfl) (by unfold maxLen;omega) (by omega) (Nat.le_trans hbz (by simp)) ?_
                               intro b8 c8 w8 ho8 hg8 _
                               have HB8:=Lib.hid (HG7.out.pushB HB7.out hbz hg8)
                               have HG8:Hid (∃ vs,Gr V.heap.size w8 b8 (j+1) c8 vs (G.take (j+1))∧VsB V.heap.size vs):=Lib.hid ⟨_,by rw [HTK.out];exact HG7.out.push HT.out hg8 ho8,HVB.out.snoc HGL.out⟩
                               clear ho8 hg8))
             go_roundw
             case rel=>exact ⟨j+1,b8,c8,by omega,by go_num,rfl,HG8,HB8⟩
             case measure=>have:=HN.out;simp [intOf];omega
           · have hjj:j=G.length:=by omega
             subst hjj
             have HGF:Hid (Gr V.heap.size wr la G.length lc vs G):=Lib.hid (by
               have:=HGR.out
               rwa [List.take_of_length_le (Nat.le_refl _)] at this)
             have HFJ:Hid (FrJ w V.heap.size H G K W0 (oN (o.drop 0)) la lc W0 wr):=Lib.hid (by
               have hmem:∀ i,i<G.length→i ∈ oN (o.drop 0):=fun i hi=>by rw [List.drop_zero];exact (oN_mem HOO.out i).2 hi
               refine ⟨0,fun _=>none,fun _ => -1,vs,HH.out.1.trans (HB.out.mono HH.out.1.size),HB.out.size,?_,HVB.out,below_heap HB.out HH.out.2.2 (lt_of_heap HH.out.2.2),?_,⟨fun i hi hil=>absurd (hmem i hi) hil⟩,fun _ _=>rfl⟩
               · rw [leftL_start HG.out hmem];exact HGF.out
               · rw [← HW0.out]
                 rw [List.drop_zero] at hmem ⊢
                 exact JM.Pick.start (oN_nodup HOO.out) (fun i hi=>(oN_mem HOO.out i).1 hi) hmem (bestV_is _ _ _))
             have HHB:Hid (H<V.heap.size∧w.heap.size≤H):=Lib.hid ⟨lt_of_heap HH.out.2.2,HH.out.2.1⟩
             generalize V.heap.size=B0 at HFJ HHB
             clear HGF HGX HVB HGR HB
             go_wp2_with fail
             go_loopw [11,15,17,18,19,20,21,22,23] (fun wa le i s18 s19 s20 s21 s22 s23 wr => ∃ (p:Nat) (la:Option Addr) (lc:Nat) (want:Int),p≤o.length∧i=.int .i64 (p:Int)∧wa=.int .i64 want∧le=.slice la G.length lc∧Hid (FrJ w B0 H G K W0 (oN (o.drop p)) la lc want wr)) (fun _ _ i _ _ _ _ _ _ _=>o.length - (intOf i).toNat)
             case atStart=>exact ⟨0,la,lc,W0,Nat.zero_le _,rfl,rfl,rfl,HFJ⟩
             case round =>
               obtain ⟨p,la,lc,want,hp,rfl,rfl,rfl,HP⟩:=hrel
               by_cases hlp:p<o.length
               · have hob:=ord_bd HOO.out
                 have hz:=hob.2.1 _ (List.getElem_mem hlp)
                 obtain ⟨i,hi⟩:=Int.eq_ofNat_of_zero_le hz.1
                 have hin:i<G.length:=by omega
                 obtain ⟨T,m,hf,vs,h1,h2,h3,h4,h5,h6,h7,h8⟩:=HP.out
                 have HLD:Hid (oN (o.drop p)=i :: oN (o.drop (p+1))∧i ∉ oN (o.drop (p+1))∧(oN (o.drop (p+1))).Nodup∧∀ x ∈ oN (o.drop (p+1)),x<G.length):=Lib.hid (by
                   have e1:oN (o.drop p)=i :: oN (o.drop (p+1)):=by
                     rw [List.drop_eq_getElem_cons hlp]
                     unfold oN
                     rw [List.map_cons,hi]
                     rfl
                   have hnd:(oN (o.drop p)).Nodup:=(oN_nodup HOO.out).sublist (by unfold oN;exact (List.drop_sublist p o).map _)
                   rw [e1] at hnd
                   refine ⟨e1,(List.nodup_cons.1 hnd).1,(List.nodup_cons.1 hnd).2,fun x hx=>(oN_mem HOO.out x).1 ?_⟩
                   unfold oN at hx ⊢
                   exact ((List.drop_sublist (p+1) o).map _).subset hx)
                 rw [HLD.out.1] at h3 h6 h7 h8
                 obtain ⟨g,rfl⟩:∃ g,la=some ⟨g,0,none⟩:=by
                   rcases h3.1.2 with ⟨h0,_⟩ | ⟨g,cap,cur,hv,_⟩
                   · obtain ⟨_,h9,_⟩:=Value.slice.inj h0;omega
                   · cases hv;exact ⟨g,rfl⟩
                 obtain ⟨x,y,z,e2,hrow⟩:=h3.2.2 i (by rw [leftL_length];exact hin)
                 rw [leftL_row hin] at hrow
                 have hy:=hrow.1.1
                 rw [List.length_map,List.length_range] at hy
                 have hy9:=hy.symm
                 subst hy9
                 have cl:=cells_of_owns h3.1 _ _ e2
                 have zl:wr.frozen? ⟨g,i,none⟩=false:=by
                   obtain ⟨cur,hcu⟩:=owns_block h3.1 (k:=g) rfl
                   exact blk_free hcu
                 obtain ⟨bo,oo,rfl,_,co⟩:=(HO.out.below h1).at p hlp
                 rw [hi] at co
                 have H3:=Lib.hid h3
                 have H4:=Lib.hid h4
                 have H5:=Lib.hid h5
                 have H6:=Lib.hid h6
                 have H7:=Lib.hid h7
                 have H8:=Lib.hid h8
                 have H12:=Lib.hid (And.intro h1 h2)
                 have HROW:=Lib.hid hrow
                 clear h1 h2 h3 h4 h5 h6 h7 h8 hrow e2 hi hz hob
                 go_wp2_with fail
                 refine (r11nothing_any K wr hk8).mono ?_
                 rintro e w5 ⟨na,nc,rfl,hb5,hT5,hnB⟩
                 have cl5:=cell_later hb5 cl
                 have zl5:w5.frozen? ⟨g,i,none⟩=false:=by
                   obtain ⟨cur,hcu⟩:=owns_block (H3.out.below hb5).1 (k:=g) rfl
                   exact blk_free hcu
                 have hgB:B0≤g:=owns_base H3.out.1 g rfl
                 have hS:Gr B0 (w5.setCell ⟨g,i,none⟩ (.slice na K nc)) (some ⟨g,0,none⟩) G.length lc (vs.set i (.slice na K nc)) (leftL G.length K (gL G) (oN (o.drop (p+1))) T):=by
                   have:=(H3.out.below hb5).setRow (i:=i) (by rw [leftL_length];exact hin) hT5
                   rwa [leftL_take HLD.out.2.1] at this
                 have HS:=Lib.hid hS
                 have HSB:Hid (VsB B0 (vs.set i (.slice na K nc))):=Lib.hid (H4.out.set (fun b off e=>Nat.le_trans H12.out.2 (hnB b off e)))
                 have HTS:Hid (Touch (fun k=>k=g) w5 (w5.setCell ⟨g,i,none⟩ (.slice na K nc))):=Lib.hid ((Touch.refl _ _).setCell _ _ (.inl rfl))
                 have HR6:Hid (IsT (w5.setCell ⟨g,i,none⟩ (.slice na K nc)) x K z ((List.range K).map fun k=>JM.mskG (gL G) (i :: oN (o.drop (p+1))) T i k)):=Lib.hid ((HROW.out.below hb5).keep HTS.out.size (fun b C _ hC=>HTS.out.heap hC (fun e=>by
                   obtain ⟨cur,hcu⟩:=owns_block (H3.out.below hb5).1 (k:=g) rfl
                   rw [e,hcu] at hC
                   have:=(Obj.cells.inj (Option.some.inj hC)).2.1
                   revert this;decide)))
                 have HF6:Hid ((w5.setCell ⟨g,i,none⟩ (.slice na K nc)).heap[H]?=some (.cells (fnA G.length hf) 3 (0,0))):=Lib.hid (HTS.out.heap (below_heap hb5 H5.out (lt_of_heap H5.out)) (fun e=>by have:=HHB.out.1;omega))
                 have HB6:Hid (Below w.heap.size w (w5.setCell ⟨g,i,none⟩ (.slice na K nc))∧B0≤(w5.setCell ⟨g,i,none⟩ (.slice na K nc)).heap.size):=Lib.hid ⟨(H12.out.1.trans (hb5.mono H12.out.1.size)).setCell (p:=⟨g,i,none⟩) (show w.heap.size≤g by have:=HHB.out;omega) _,Nat.le_trans H12.out.2 (Nat.le_trans hb5.size HTS.out.size)⟩
                 clear hS hT5 hnB hb5 cl zl H3 H4 H5 H12 HROW HTS
                 go_wp2_with fail
                 clear cl5 zl5
                 generalize w5.setCell ⟨g,i,none⟩ (.slice na K nc)=w6 at HS HR6 HF6 HB6 ⊢
                 generalize vs.set i (.slice na K nc)=vs6 at HS HSB
                 have HLP:Hid (p<o.length):=Lib.hid hlp
                 have hp9:p<8:=by have:=HOL.out;omega
                 have HMI:Hid (m i=none):=Lib.hid (pick_free H6.out hin)
                 have HGH:Hid (H<w.heap.size∨w.heap.size≤H):=Lib.hid (by omega)
                 have HKG:Hid (∀ k',gL G i k'≤1000000∧-1000000≤gL G i k'):=Lib.hid (fun k' => ⟨(gL_bd HG.out i k').2,(gL_bd HG.out i k').1⟩)
                 have HWB:Hid (0≤want∧want≤8000000):=Lib.hid (by
                   have h3:=fb_bd (K:=K) (fun i k=>(gL_bd HG.out i k).2) (i :: oN (o.drop (p+1))) T
                   have h4:(i :: oN (o.drop (p+1))).length≤8:=by rw [← HLD.out.1,oN_length,List.length_drop];have:=HOL.out;omega
                   have h5:=H6.out.we
                   omega)
                 generalize hll:oN (o.drop (p+1))=ll at HS HR6 H6 H7 H8 HLD
                 have HLL:=Lib.hid hll
                 clear hll
                 go_loopw [11,15,20,21,22,23] (fun wa le kq s21 s22 s23 wq => ∃ q:Nat,q≤K∧wa=.int .i64 want∧le=.slice (some ⟨g,0,none⟩) G.length lc∧kq=.int .i64 (q:Int)∧Hid (Below w6.heap.size w6 wq)∧Hid (∀ k',k'<q→¬ JM.bit T k'→0≤gL G i k'→gL G i k'+JM.fb K (gL G) ll (T ||| 2 ^ k')≠want)) (fun _ _ kq _ _ _ _=>K - (intOf kq).toNat)
                 case atStart=>exact ⟨0,Nat.zero_le _,rfl,rfl,rfl,Lib.hid (Below.refl _ _),Lib.hid (fun k' h=>by omega)⟩
                 case round =>
                   obtain ⟨q,hq,rfl,rfl,rfl,HBQ,HNO⟩:=hrel
                   by_cases hqk:q<K
                   · obtain ⟨b7,o7,rfl,hb7,c7⟩:=(HR6.out.1.below HBQ.out).at q (by simpa using hqk)
                     simp only [List.getElem_map,List.getElem_range] at c7
                     have HMV:Hid (JM.mskG (gL G) (i :: ll) T i q=if T.testBit q=false then gL G i q else -1):=Lib.hid (mskG_in List.mem_cons_self)
                     generalize JM.mskG (gL G) (i :: ll) T i q=mv at c7 HMV
                     by_cases hmv:mv<0
                     · have d0:decide (mv<0)=true:=decide_eq_true hmv
                       have HNO2:Hid (∀ k',k'<q+1→¬ JM.bit T k'→0≤gL G i k'→gL G i k'+JM.fb K (gL G) ll (T ||| 2 ^ k')≠want):=Lib.hid (fun k' h1 h2 h3=>by
                         by_cases e:k'=q
                         · subst e
                           have h4:=HMV.out
                           rw [if_pos (by unfold JM.bit at h2;simpa using h2)] at h4
                           omega
                         · exact HNO.out k' (by omega) h2 h3)
                       clear hmv
                       go_wp2_with fail
                       go_roundw
                       case rel=>exact ⟨q+1,by omega,rfl,rfl,by go_num,HBQ,HNO2⟩
                       case measure=>simp [intOf];omega
                     · have d0:decide (mv<0)=false:=decide_eq_false hmv
                       have hbt:T.testBit q=false:=by
                         cases e:T.testBit q with
                         | false=>rfl
                         | true =>
                           have h4:=HMV.out
                           rw [e,if_neg (by decide)] at h4
                           omega
                       have hmg:mv=gL G i q:=by
                         have h4:=HMV.out
                         rwa [if_pos hbt] at h4
                       have HBT:=Lib.hid hbt
                       have HMG:=Lib.hid hmg
                       have hmb:0≤mv∧mv≤1000000:=⟨by omega,by rw [hmg];exact (HKG.out q).1⟩
                       have hgw:Gr B0 wr (some ⟨g,0,none⟩) G.length lc vs6 (leftL G.length K (gL G) ll T):=HS.out.below HBQ.out
                       have HIL:=Lib.hid (hgw.isIL (by rw [leftL_length]))
                       have HGW:=Lib.hid hgw
                       clear hbt hmg hmv hgw
                       go_wp2_with fail
                       refine (r11without_any (some ⟨g,0,none⟩) G.length lc (leftL G.length K (gL G) ll T) K q wr HIL.out (leftL_ok HG.out _ _) hqk).mono ?_
                       rintro e w7 ⟨a',c',vs7,rfl,hb7',hg7,hv7⟩
                       rw [leftL_without hqk,leftL_length] at hg7
                       have c7b:=cell_later hb7' c7
                       have HIR:=Lib.hid (hg7.isIL (by rw [leftL_length]))
                       have HG7:=Lib.hid hg7
                       have HV7:=Lib.hid hv7
                       have HB7:=Lib.hid (HBQ.out.trans (hb7'.mono HBQ.out.size))
                       have HWR:Hid (w6.heap.size≤wr.heap.size):=Lib.hid HBQ.out.size
                       have HC7:Hid (wr.heap.size≤w7.heap.size):=Lib.hid hb7'.size
                       clear hb7' hg7 hv7 c7
                       try rw [leftL_length]
                       go_wp2_with fail
                       refine (r10Best_any a' G.length c' (leftL G.length K (gL G) ll (T ||| 2 ^ q)) K w7 HIR.out (leftL_ok HG.out _ _)).mono ?_
                       rw [leftL_length,leftL_best HLD.out.2.2.1 HLD.out.2.2.2]
                       rintro e w8 ⟨rfl,hb8⟩
                       have c8:=cell_later hb8 c7b
                       have HB8:=Lib.hid (HB7.out.trans (hb8.mono HB7.out.size))
                       have HG8:=Lib.hid (HG7.out.below hb8)
                       have hfb:=fb_bd (K:=K) (fun i k=>(gL_bd HG.out i k).2) ll (T ||| 2 ^ q)
                       have hlb:ll.length≤8:=by rw [← HLL.out,oN_length,List.length_drop];have:=HOL.out;omega
                       generalize hfv:JM.fb K (gL G) ll (T ||| 2 ^ q)=fv at hfb
                       have HFV:=Lib.hid hfv
                       have hfb2:0≤fv∧fv≤8000000:=by omega
                       have hsum:wrap64 (mv+fv)=mv+fv:=by unfold wrap64;omega
                       clear hb8 c7b hfb hlb hfv
                       by_cases hw:mv+fv=want
                       · have d9:(mv+fv == want)=true:=by rw [beq_iff_eq];exact hw
                         have hHB:=HHB.out
                         have hf8:=below_heap HB8.out HF6.out (lt_of_heap HF6.out)
                         have cH:w8.cell? ⟨H,i,none⟩=some (.int .i64 (hf i)):=by rw [cell_of_block hf8,fnA_get _ hin]
                         have zH:w8.frozen? ⟨H,i,none⟩=false:=blk_free hf8
                         have HFS:Hid ((w8.setCell ⟨H,i,none⟩ (.int .i64 (q:Int))).heap[H]?=some (.cells (fnA G.length (updF hf i (q:Int))) 3 (0,0))):=Lib.hid (by
                           rw [heap_setCell_same w8 H i _ _ _ hf8,fnA_set _ hin])
                         have HTS2:Hid (Touch (fun k=>k=H) w8 (w8.setCell ⟨H,i,none⟩ (.int .i64 (q:Int)))):=Lib.hid ((Touch.refl _ _).setCell _ _ (.inl rfl))
                         have HJ9:Hid (FrJ w B0 H G K W0 ll a' c' fv (w8.setCell ⟨H,i,none⟩ (.int .i64 (q:Int)))):=Lib.hid (by
                           have hB07:B0≤w7.heap.size:=by have:=HB6.out.2;have:=HWR.out;have:=HC7.out;omega
                           have hB0r:B0≤wr.heap.size:=by have:=HB6.out.2;have:=HWR.out;omega
                           refine ⟨T ||| 2 ^ q,_,_,vs7,(HB6.out.1.trans (HB8.out.mono HB6.out.1.size)).setCell (p:=⟨H,i,none⟩) hHB.2 _,?_,(HG8.out.lower hB0r).touchLow (HV7.out.lower hB0r) HTS2.out (fun k hk=>by omega),HV7.out.lower hB0r,HFS.out,?_,H7.out.some,fun x hx => ?_⟩
                           · have:=HTS2.out.size;have:=HB8.out.size;have:=HB6.out.2;omega
                           · have h5:=H6.out.takes hin HLD.out.2.1 hqk (by unfold JM.bit;rw [HBT.out];decide) (by rw [← HMG.out,HFV.out];exact hw)
                             rw [← HMG.out] at h5
                             rwa [show want - mv=fv by omega] at h5
                           · have hne:x≠i:=fun e=>HLD.out.2.1 (by rw [← e];exact hx)
                             rw [updF_ne _ _ hne]
                             exact H8.out x (List.mem_cons_of_mem _ hx))
                         generalize hf i=old at cH
                         clear hw hf8
                         go_wp2_with fail
                         go_roundw
                         case rel=>exact ⟨p+1,a',c',fv,HLP.out,by go_num,rfl,rfl,by rw [HLL.out];exact HJ9⟩
                         case measure=>have:=HN.out;have:=HLP.out;simp [intOf];omega
                       · have d9:(mv+fv == want)=false:=by rw [beq_eq_false_iff_ne];exact hw
                         have HNO2:Hid (∀ k',k'<q+1→¬ JM.bit T k'→0≤gL G i k'→gL G i k'+JM.fb K (gL G) ll (T ||| 2 ^ k')≠want):=Lib.hid (fun k' h1 h2 h3=>by
                           by_cases e:k'=q
                           · subst e;rw [← HMG.out,HFV.out];exact hw
                           · exact HNO.out k' (by omega) h2 h3)
                         clear hw
                         go_wp2_with fail
                         go_roundw
                         case rel=>exact ⟨q+1,by omega,rfl,rfl,by go_num,HB8,HNO2⟩
                         case measure=>simp [intOf];omega
                   · have hqq:K=q:=by omega
                     have HJ9:Hid (FrJ w B0 H G K W0 ll (some ⟨g,0,none⟩) lc want wr):=Lib.hid (by
                       refine ⟨T,m,hf,vs6,HB6.out.1.trans (HBQ.out.mono HB6.out.1.size),Nat.le_trans HB6.out.2 HBQ.out.size,HS.out.below HBQ.out,HSB.out,below_heap HBQ.out HF6.out (lt_of_heap HF6.out),H6.out.none (fun k' h5=>HNO.out k' (by omega)),?_,fun x hx=>H8.out x (List.mem_cons_of_mem _ hx)⟩
                       have h9:=H7.out.none HMI.out
                       rwa [updF_self (H8.out i List.mem_cons_self)] at h9)
                     clear HNO HBQ
                     subst hqq
                     go_wp2_with fail
                     go_roundw
                     case rel=>exact ⟨p+1,some ⟨g,0,none⟩,lc,want,HLP.out,by go_num,rfl,rfl,by rw [HLL.out];exact HJ9⟩
                     case measure=>have:=HN.out;have:=HLP.out;simp [intOf];omega
               · have hpp:o.length=p:=by omega
                 subst hpp
                 have HFI:Hid (∃ hf T m,Below w.heap.size w wr∧wr.heap[H]?=some (.cells (fnA G.length hf) 3 (0,0))∧JM.Pick G.length K (gL G) (bestV G.length K (gL G)) [] T want m∧HasF G.length [] hf m):=Lib.hid (by
                   obtain ⟨T,m,hf,vs,h1,_,_,_,h5,h6,h7,_⟩:=HP.out
                   rw [List.drop_length] at h6 h7
                   exact ⟨hf,T,m,h1,h5,by rw [HW0.out];exact h6,h7⟩)
                 go_wp2_with fail
                 go_ret2
                 obtain ⟨hf,T,m,h1,h2,h3,h4⟩:=HFI.out
                 exact ⟨H,hf,T,want,m,rfl,h1,h2,h3,h4⟩
end
end Go.Proofs.YtmmmjohoihpbeaaGreat
