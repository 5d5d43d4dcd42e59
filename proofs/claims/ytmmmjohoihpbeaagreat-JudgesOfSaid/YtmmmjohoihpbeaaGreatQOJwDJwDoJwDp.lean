/- The package demands: may,gains;conditions: those typed. -/
import Derived.Test.YtmmmjohoihpbeaaGreatQOJwI
import Derived.BigRegion
namespace Go.Proofs.YtmmmjohoihpbeaaGreat
section
open Go.RowKit Go.Shelf
set_option linter.unusedVariables false
set_option linter.unusedSimpArgs false
attribute [local go_sem] Oper.semAt_some
structure PrOk (p:List Int):Prop where
 l1:1≤p.length
 l8:p.length≤8
 b:∀ z ∈ p,0≤z∧z≤2000000
theorem dmay1_any (n:Int) (w:World) (h:0≤n∧n≤2000000) :
   Calls Tryz.prog 150 #[.int .i64 n] w fun e w' => e=.returned (.bool false)∧Below w.heap.size w w':=by
 have d1:decide (n<0)=false:=decide_eq_false (by omega)
 have d2:decide (2000000<n)=false:=decide_eq_false (by omega)
 go_enter Tryz.func150,Tryz.ntmps150
 go_wp2_with fail
 go_ret
 exact ⟨rfl,Below.refl _ _⟩
set_option maxHeartbeats 1000000 in
theorem dmay_ok (a:Option Addr) (n c:Nat) (p:List Int) (w:World) (h:IsI w a n c p) (hp:PrOk p) :
   Calls Tryz.prog 111 #[.slice a n c,.int .i64 (p.length:Int)] w fun e w' => e=.returned (.bool true)∧Below w.heap.size w w':=by
 obtain rfl:=h.1
 have h1:=hp.l1
 have h8:=hp.l8
 have d1:decide ((1:Int)≤(p.length:Int))=true:=decide_eq_true (by omega)
 have d2:decide ((p.length:Int)≤8)=true:=decide_eq_true (by omega)
 have d3:decide (1≤p.length)=true:=decide_eq_true h1
 have d4:decide (p.length≤8)=true:=decide_eq_true h8
 have HI:=Lib.hid h
 have HP:=Lib.hid hp
 clear h hp
 go_enter Tryz.func111,Tryz.ntmps111
 go_wp2_with fail
 refine (conI_gen 150 #[] (fun _=>false) a p.length c p w HI.out (fun x W' => (enters_of Tryz.func150 (by kernel_rfl) rfl) _ _) (fun z hz W' hW' => dmay1_any z W' (HP.out.b z hz))).mono ?_
 rintro e w1 ⟨rfl,hb1⟩
 have HA:Hid (p.any (fun _=>false)=false):=Lib.hid (by simp)
 have HB1:=Lib.hid hb1
 clear hb1
 rw [HA.out]
 go_wp2_with fail
 go_ret
 exact ⟨rfl,HB1.out⟩
abbrev GnX:={ x:Nat × Int // x.1<8∧-2000000≤x.2∧x.2≤1000000 }
def GnX.enc (x:GnX):Array Value:=#[.int .i64 (x.1.1:Int),.int .i64 x.1.2]
def gnK (bid p:List Int) (k:Nat):List (Nat × Int):=(List.range k).map fun i=>(i,bid.getD i 0 - p.getD i 0)
theorem gnK_succ (bid p:List Int) (k:Nat):gnK bid p (k+1)=gnK bid p k ++ [(k,bid.getD k 0 - p.getD k 0)]:=by simp [gnK,List.range_succ]
theorem gnK_length (bid p:List Int) (k:Nat):(gnK bid p k).length=k:=by simp [gnK]
set_option maxRecDepth 100000 in
set_option maxHeartbeats 4000000 in
theorem dgains1_in (l Bs Bp:Nat) (a pa:Option Addr) (m cap pm pc:Nat) (bid p:List Int) (hp:PrOk p) (hbl:bid.length≤p.length) (hbb:∀ z ∈ bid,0≤z∧z≤1000000) (n₀:Nat) (J Jx:List GnX→World→Prop)
   (hY:∀ pre x W,J pre W→pre.length<8→YieldAt Fence.wide 0 Tryz.prog l (GnX.enc x) W fun e W' =>
     (e=.returned (.bool true)∧J (pre ++ [x]) W'∧KB n₀ Bp W W')∨(e=.returned (.bool false)∧Jx (pre ++ [x]) W'))
   (w0:World) (hn₀:w0.heap.size=n₀) (hI:IsI w0 a m cap bid) (hP:IsI w0 pa pm pc p) (W:World) (hW:Below n₀ w0 W) (f1:W.cell? ⟨Bs,0,none⟩=some (.slice a m cap)) (f2:W.cell? ⟨Bp,0,none⟩=some (.slice pa pm pc)) (h0:J [] W) :
   CallsIn Fence.wide 0 Tryz.prog 180 #[.func (.yield l) #[] #[],.pointer (some ⟨Bs,0,none⟩),.pointer (some ⟨Bp,0,none⟩)] W fun e W' => (∃ v,e=.returned v) ∧
     ((∃ ys:List GnX,ys.map (·.1)=gnK bid p bid.length∧J ys W')∨(∃ pre,True∧Jx pre W')):=by
 obtain rfl:=hI.1
 obtain rfl:=hP.1
 subst hn₀
 have h8:=hp.l8
 have HI:=Lib.hid hI
 have HP:=Lib.hid hP
 have HPO:=Lib.hid hp
 have HBB:=Lib.hid hbb
 have HY:=Lib.hid hY
 have HW:=Lib.hid hW
 have HF2:=Lib.hid f2
 have H0:=Lib.hid h0
 clear hp hbb hI hP hY hW h0 f2
 refine callsIn_of_wp Tryz.func180 rfl trivial ?_ rfl
 simp only [Tryz.ntmps180,List.size_toArray,List.length_cons,List.length_nil,Nat.reduceAdd,Nat.reduceSub,Array.replicate_succ,Array.replicate_zero,List.push_toArray,List.append_toArray,List.nil_append,List.cons_append]
 gi_wp2
 gi_loopw [8] (fun i wr => ∃ k:Nat,k≤bid.length∧i=.int .i64 (k:Int)∧Hid (∃ pre:List GnX,pre.map (·.1)=gnK bid p k∧J pre wr∧KB w0.heap.size Bp W wr)) (fun i _=>bid.length - (intOf i).toNat)
 case atStart=>exact ⟨0,Nat.zero_le _,rfl,Lib.hid ⟨[],rfl,H0.out,Below.refl _ _,fun _ h=>h⟩⟩
 case round =>
   obtain ⟨k,hk,rfl,HS⟩:=hrel
   obtain ⟨pre,hpre,hJ,hb⟩:=HS.out
   clear HS
   by_cases hlt:k<bid.length
   · have hkp:k<p.length:=by omega
     obtain ⟨b1,o1,rfl,hb1,hc1⟩:=HI.out.at k hlt
     obtain ⟨b2,o2,rfl,hb2,hc2⟩:=HP.out.at k hkp
     have hb':=HW.out.trans hb.1
     have k1:=cell_later hb' hc1
     have k2:=cell_later hb' hc2
     have k3:=hb.2 _ HF2.out
     have hz1:=HBB.out _ (List.getElem_mem hlt)
     have hz2:=HPO.out.b _ (List.getElem_mem hkp)
     have e1:bid.getD k 0=bid[k]:=getD_get hlt
     have e2:p.getD k 0=p[k]:=getD_get hkp
     have HG:Hid (gnK bid p (k+1)=gnK bid p k ++ [(k,bid[k] - p[k])]):=Lib.hid (by rw [gnK_succ,e1,e2])
     generalize bid[k]=x at k1 hz1 HG
     generalize p[k]=y at k2 hz2 HG
     obtain ⟨fn,tmps,assign,body,hy,hR⟩:=HY.out pre ⟨(k,x - y),by show k<8;omega,by show -2000000≤x - y;omega,by show x - y≤1000000;omega⟩ wr hJ (by
       have:pre.length=k:=by rw [← gnK_length bid p k,← hpre,List.length_map]
       omega)
     dsimp only [GnX.enc] at hy hR
     have HR:=Lib.hid hR
     have HP1:=Lib.hid hpre
     have HB:=Lib.hid hb
     clear hR hc1 hc2 e1 e2 hpre hJ hb hb'
     gi_wp2
     refine ⟨rfl,?_⟩
     refine HR.out.mono ?_
     rintro e W3 (⟨rfl,hJ3,hk3⟩ | ⟨rfl,hJx3⟩)
     · have HJ3:Hid (∃ pre:List GnX,pre.map (·.1)=gnK bid p (k+1)∧J pre W3∧KB w0.heap.size Bp W W3):=Lib.hid ⟨_,by rw [List.map_append,HP1.out,HG.out];rfl,hJ3,HB.out.t hk3⟩
       clear hJ3 hk3
       gi_wp2
       go_roundw
       case rel=>exact ⟨k+1,by omega,by go_num,HJ3⟩
       case measure=>simp [intOf];omega
     · gi_wp2
       refine bodyPost_ret (results_none rfl _ _ _) rfl ?_
       exact ⟨⟨_,rfl⟩,.inr ⟨_,trivial,hJx3⟩⟩
   · have hkk:k=bid.length:=by omega
     subst hkk
     have HF:Hid (∃ ys:List GnX,ys.map (·.1)=gnK bid p bid.length∧J ys wr):=Lib.hid ⟨pre,hpre,hJ⟩
     clear hpre hJ hb
     gi_wp2
     go_end0
     exact ⟨⟨_,rfl⟩,.inl HF.out⟩
end
section
open Go.RowKit Go.Shelf
set_option linter.unusedVariables false
set_option linter.unusedSimpArgs false
attribute [local go_sem] Oper.semAt_some
def OfC (B:Nat) (a:Option Addr) (n c:Nat) (nb:Bool) (g:Int) (W:World):Prop :=
 W.heap[B]?=some (.cells #[.slice a n c] 22 (0,0))∧W.heap[B+1]?=some (.cells #[.bool nb] 4 (0,0))∧W.heap[B+1+1]?=some (.cells #[.int .i64 g] 3 (0,0))
theorem OfC.clip {B:Nat} {a:Option Addr} {n c:Nat} {nb:Bool} {g:Int} {W:World} (h:OfC B a n c nb g W) :
   OfC B a n n (g == 0) g (((W.setCell ⟨B,0,none⟩ (.slice a n n)).setCell ⟨B+1,0,none⟩ (.bool (g == 0))).drew)∧Touch (fun k=>k=B∨k=B+1) W (((W.setCell ⟨B,0,none⟩ (.slice a n n)).setCell ⟨B+1,0,none⟩ (.bool (g == 0))).drew):=by
 obtain ⟨h1,h2,h3⟩:=h
 have g1:=heap_setCell_same W B 0 _ _ (.slice a n n) h1
 have g2:=(Below.heap_setCell W ⟨B,0,none⟩ (.slice a n n) (B+1) (by show B+1≠B;omega)).trans h2
 have g3:=(Below.heap_setCell W ⟨B,0,none⟩ (.slice a n n) (B+1+1) (by show B+1+1≠B;omega)).trans h3
 have t1:Touch (fun k=>k=B∨k=B+1) W (W.setCell ⟨B,0,none⟩ (.slice a n n)):=Touch.setCell (Touch.refl _ _) _ _ (.inl (.inl rfl))
 generalize W.setCell ⟨B,0,none⟩ (.slice a n n)=W1 at *
 refine ⟨⟨(Below.heap_setCell W1 ⟨B+1,0,none⟩ (.bool (g == 0)) B (by show B≠B+1;omega)).trans g1,heap_setCell_same W1 (B+1) 0 _ _ (.bool (g == 0)) g2,(Below.heap_setCell W1 ⟨B+1,0,none⟩ (.bool (g == 0)) (B+1+1) (by show B+1+1≠B+1;omega)).trans g3⟩,(t1.setCell _ _ (.inl (.inr rfl))).drew⟩
set_option maxRecDepth 100000 in
set_option maxHeartbeats 4000000 in
theorem dof1_any (B:Nat) (a:Option Addr) (n c:Nat) (nb:Bool) (g:Int) (W:World) (h:OfC B a n c nb g W) (hn:n≤c) (hc:c≤maxLen) (ha:a=none→c=0) :
   CallsDIn Fence.wide 0 Tryz.prog 151 #[.pointer (some ⟨B,0,none⟩),.pointer (some ⟨B+1+1,0,none⟩),.pointer (some ⟨B+1,0,none⟩)] .returning W fun e u' W' => u'=.returning∧(∃ v,e=.returned v)∧OfC B a n n (g == 0) g W'∧Touch (fun k=>k=B∨k=B+1) W W':=by
 obtain ⟨h1,h2,h3⟩:=h
 have f1:W.cell? ⟨B,0,none⟩=some (.slice a n c):=by rw [cell_of_block h1];rfl
 have f2:W.cell? ⟨B+1,0,none⟩=some (.bool nb):=by rw [cell_of_block h2];rfl
 have f3:W.cell? ⟨B+1+1,0,none⟩=some (.int .i64 g):=by rw [cell_of_block h3];rfl
 have z1:W.frozen? ⟨B,0,none⟩=false:=blk_free h1
 have z2:W.frozen? ⟨B+1,0,none⟩=false:=blk_free h2
 have HF:=Lib.hid (OfC.clip ⟨h1,h2,h3⟩)
 clear h1 h2 h3
 refine callsDIn_of_wp Tryz.func151 rfl trivial ?_ rfl
 simp only [Tryz.ntmps151,List.size_toArray,List.length_cons,List.length_nil,Nat.reduceAdd,Nat.reduceSub,Array.replicate_succ,Array.replicate_zero,List.push_toArray,List.append_toArray,List.nil_append,List.cons_append]
 refine (wpIn_wide (n:=0)).2 ?_
 go_wp2_with fail
 go_region_with ((go_at_call 69;refine (iclip_any a n c _ hn hc ha).mono ?_;rintro e w' ⟨rfl,rfl⟩))
 all_goals
   have H:=HF.out
   clear HF
   go_end0
   exact ⟨⟨_,rfl⟩,H.1,H.2⟩
def dmS (s:List Int × Int) (x:Nat × Int):List Int × Int:=if s.2<x.2 then ([(x.1:Int)],x.2) else if x.2=s.2 then (s.1 ++ [(x.1:Int)],s.2) else s
def dmF (l:List (Nat × Int)):List Int × Int:=l.foldl dmS ([],0)
theorem dmF_snoc (l:List (Nat × Int)) (x:Nat × Int):dmF (l ++ [x])=dmS (dmF l) x:=by simp [dmF]
theorem dmF_len (l:List (Nat × Int)):(dmF l).1.length≤l.length:=by
 have:∀ (n:Nat) (l:List (Nat × Int)) (s:List Int × Int),s.1.length≤n→(l.foldl dmS s).1.length≤n+l.length:=by
   intro n l
   induction l generalizing n with
   | nil=>intro s h;exact h
   | cons x l ih =>
     intro s h
     have h1:(dmS s x).1.length≤n+1:=by
       unfold dmS
       split
       · simp
       · split
         · simp;omega
         · omega
     have:=ih (n+1) (dmS s x) h1
     rw [List.foldl_cons,List.length_cons];omega
 have h:=this 0 l ([],0) (Nat.le_refl _)
 rw [Nat.zero_add] at h
 exact h
theorem OfC.touch {B:Nat} {a:Option Addr} {n c:Nat} {nb:Bool} {g:Int} {S:Nat→Prop} {W W':World} (h:OfC B a n c nb g W) (ht:Touch S W W') (hs:∀ k,B≤k→k≤B+1+1→¬ S k):OfC B a n c nb g W' :=
 ⟨ht.heap h.1 (hs _ (Nat.le_refl _) (by omega)),ht.heap h.2.1 (hs _ (by omega) (by omega)),ht.heap h.2.2 (hs _ (by omega) (Nat.le_refl _))⟩
theorem OfC.set3 {B:Nat} {a:Option Addr} {n c:Nat} {nb:Bool} {g:Int} {W:World} (h:OfC B a n c nb g W) (a':Option Addr) (n' c':Nat) (nb':Bool) (g':Int) :
   OfC B a' n' c' nb' g' (((W.setCell ⟨B,0,none⟩ (.slice a' n' c')).setCell ⟨B+1,0,none⟩ (.bool nb')).setCell ⟨B+1+1,0,none⟩ (.int .i64 g')):=by
 obtain ⟨h1,h2,h3⟩:=h
 have g1:=heap_setCell_same W B 0 _ _ (.slice a' n' c') h1
 have g2:=(Below.heap_setCell W ⟨B,0,none⟩ (.slice a' n' c') (B+1) (by show B+1≠B;omega)).trans h2
 have g3:=(Below.heap_setCell W ⟨B,0,none⟩ (.slice a' n' c') (B+1+1) (by show B+1+1≠B;omega)).trans h3
 generalize W.setCell ⟨B,0,none⟩ (.slice a' n' c')=W1 at *
 have k1:=(Below.heap_setCell W1 ⟨B+1,0,none⟩ (.bool nb') B (by show B≠B+1;omega)).trans g1
 have k2:=heap_setCell_same W1 (B+1) 0 _ _ (.bool nb') g2
 have k3:=(Below.heap_setCell W1 ⟨B+1,0,none⟩ (.bool nb') (B+1+1) (by show B+1+1≠B+1;omega)).trans g3
 generalize W1.setCell ⟨B+1,0,none⟩ (.bool nb')=W2 at *
 exact ⟨(Below.heap_setCell W2 ⟨B+1+1,0,none⟩ (.int .i64 g') B (by show B≠B+1+1;omega)).trans k1,(Below.heap_setCell W2 ⟨B+1+1,0,none⟩ (.int .i64 g') (B+1) (by show B+1≠B+1+1;omega)).trans k2,heap_setCell_same W2 (B+1+1) 0 _ _ (.int .i64 g') k3⟩
theorem OfC.set2 {B:Nat} {a:Option Addr} {n c:Nat} {nb:Bool} {g:Int} {W:World} (h:OfC B a n c nb g W) (a':Option Addr) (n' c':Nat) (g':Int) :
   OfC B a' n' c' nb g' ((W.setCell ⟨B,0,none⟩ (.slice a' n' c')).setCell ⟨B+1+1,0,none⟩ (.int .i64 g')):=by
 obtain ⟨h1,h2,h3⟩:=h
 have g1:=heap_setCell_same W B 0 _ _ (.slice a' n' c') h1
 have g2:=(Below.heap_setCell W ⟨B,0,none⟩ (.slice a' n' c') (B+1) (by show B+1≠B;omega)).trans h2
 have g3:=(Below.heap_setCell W ⟨B,0,none⟩ (.slice a' n' c') (B+1+1) (by show B+1+1≠B;omega)).trans h3
 generalize W.setCell ⟨B,0,none⟩ (.slice a' n' c')=W1 at *
 exact ⟨(Below.heap_setCell W1 ⟨B+1+1,0,none⟩ (.int .i64 g') B (by show B≠B+1+1;omega)).trans g1,(Below.heap_setCell W1 ⟨B+1+1,0,none⟩ (.int .i64 g') (B+1) (by show B+1≠B+1+1;omega)).trans g2,heap_setCell_same W1 (B+1+1) 0 _ _ (.int .i64 g') g3⟩
theorem OfC.set1 {B:Nat} {a:Option Addr} {n c:Nat} {nb:Bool} {g:Int} {W:World} (h:OfC B a n c nb g W) (a':Option Addr) (n' c':Nat):OfC B a' n' c' nb g (W.setCell ⟨B,0,none⟩ (.slice a' n' c')) :=
 ⟨heap_setCell_same W B 0 _ _ (.slice a' n' c') h.1,(Below.heap_setCell W ⟨B,0,none⟩ (.slice a' n' c') (B+1) (by show B+1≠B;omega)).trans h.2.1,(Below.heap_setCell W ⟨B,0,none⟩ (.slice a' n' c') (B+1+1) (by show B+1+1≠B;omega)).trans h.2.2⟩
def OfI (w:World) (pre:List GnX) (W:World):Prop:=∃ b c,OfC w.heap.size b (dmF (pre.map (·.1))).1.length c false (dmF (pre.map (·.1))).2 W∧W.ownsRow (w.heap.size+1+1+1) 3 1 (.slice b (dmF (pre.map (·.1))).1.length c) (dmF (pre.map (·.1))).1.length (icells (dmF (pre.map (·.1))).1)∧Below w.heap.size w W
theorem owns_own {w w':World} {base n:Nat} {v:Value} {xs:List Value} {row:Option Nat} (h:w.ownsRow base 3 1 v n xs) (hg:w.grownBy w' row) (hr:∀ r,row=some r→∃ o:Obj,w.heap[r]?=some o∧o.isCells=false):w'.ownsRow base 3 1 v n xs:=by
 refine h.kept hg ?_
 cases hob:v.ownBlock with
 | none=>exact .inl rfl
 | some k =>
   refine .inr (fun e => ?_)
   obtain ⟨o,h1,h2⟩:=hr k e.symm
   obtain ⟨cur,hcur⟩:=owns_block h hob
   rw [hcur] at h1;cases h1;cases h2
theorem ofI_from (w:World) (C:Nat) (hC:w.heap.size≤C):OwnFrom C (OfI w):=fun s A A' row hs hg hr=>by
 obtain ⟨b,c,⟨h1,h2,h3⟩,h4,h5⟩:=hs
 have hr':∀ r,row=some r→∃ o:Obj,A.heap[r]?=some o∧o.isCells=false:=fun r e=>(hr r e).2
 exact ⟨b,c,⟨heap_own h1 hg hr',heap_own h2 hg hr',heap_own h3 hg hr'⟩,owns_own h4 hg hr',ownFrom_below (β:=Unit) (Nat.le_refl _) hC () A A' row h5 hg hr⟩
theorem OfI.more {w W:World} {pre:List GnX} (h:OfI w pre W) (x:GnX) (hx:(dmF (pre.map (·.1))).2<x.1.2):OfI w (pre ++ [x]) (((W.alloc (.cells #[.int .i64 (x.1.1:Int)] 3 (0,0))).setCell ⟨w.heap.size,0,none⟩ (.slice (some ⟨W.heap.size,0,none⟩) 1 1)).setCell ⟨w.heap.size+1+1,0,none⟩ (.int .i64 x.1.2)):=by
 obtain ⟨b,c,h1,h2,h3⟩:=h
 have hb1:Below W.heap.size W (W.alloc (.cells #[.int .i64 (x.1.1:Int)] 3 (0,0))):=(Below.refl _ _).alloc (Nat.le_refl _) _
 have hlt:=lt_of_heap h1.2.2
 have e:dmF ((pre ++ [x]).map (·.1))=([(x.1.1:Int)],x.1.2):=by
   rw [List.map_append,List.map_singleton,dmF_snoc];unfold dmS;rw [if_pos hx]
 have h1':=(h1.touch (Touch.of_below (S:=fun _=>False) hb1) (fun _ _ _=>id)).set2 (some ⟨W.heap.size,0,none⟩) 1 1 x.1.2
 refine ⟨some ⟨W.heap.size,0,none⟩,1,by rw [e];exact h1',?_,?_⟩
 · rw [e]
   refine ⟨rfl,.inr ⟨W.heap.size,1,#[.int .i64 (x.1.1:Int)],rfl,by omega,?_,Nat.le_refl _,by decide,rfl,rfl⟩⟩
   rw [Below.heap_setCell _ _ _ _ (by show W.heap.size≠w.heap.size+1+1;omega),Below.heap_setCell _ _ _ _ (by show W.heap.size≠w.heap.size;omega)]
   exact heap_new W _
 · exact ((h3.trans (hb1.mono h3.size)).setCell (p:=⟨w.heap.size,0,none⟩) (Nat.le_refl _) _).setCell (p:=⟨w.heap.size+1+1,0,none⟩) (by show w.heap.size≤w.heap.size+1+1;omega) _
theorem OfI.same {w W:World} {pre:List GnX} (h:OfI w pre W) (x:GnX) (hx:¬ (dmF (pre.map (·.1))).2<x.1.2) (hx2:¬ x.1.2=(dmF (pre.map (·.1))).2):OfI w (pre ++ [x]) W:=by
 have e:dmF ((pre ++ [x]).map (·.1))=dmF (pre.map (·.1)):=by
   rw [List.map_append,List.map_singleton,dmF_snoc];unfold dmS;rw [if_neg hx,if_neg hx2]
 unfold OfI
 rw [e]
 exact h
theorem OfI.also {w W W1 w3:World} {pre:List GnX} (x:GnX) (hx:x.1.2=(dmF (pre.map (·.1))).2) {b b3:Option Addr} {c c3:Nat} (h1:OfC w.heap.size b (dmF (pre.map (·.1))).1.length c false (dmF (pre.map (·.1))).2 W) (ho:W.ownsRow (w.heap.size+1+1+1) 3 1 (.slice b (dmF (pre.map (·.1))).1.length c) (dmF (pre.map (·.1))).1.length (icells (dmF (pre.map (·.1))).1)) (hB:Below w.heap.size w W)
   (hb1:Below W.heap.size W W1) (ho3:w3.ownsRow (w.heap.size+1+1+1) 3 1 (.slice b3 ((dmF (pre.map (·.1))).1.length+1) c3) ((dmF (pre.map (·.1))).1.length+1) (icells (dmF (pre.map (·.1))).1 ++ [.int .i64 (x.1.1:Int)])) (hg:W1.grownBy w3 (Value.slice b (dmF (pre.map (·.1))).1.length c).ownBlock) :
   OfI w (pre ++ [x]) (w3.setCell ⟨w.heap.size,0,none⟩ (.slice b3 ((dmF (pre.map (·.1))).1.length+1) c3))∧w3.heap[w.heap.size]?=some (.cells #[.slice b (dmF (pre.map (·.1))).1.length c] 22 (0,0))∧Below w.heap.size W w3:=by
 have e:dmF ((pre ++ [x]).map (·.1))=((dmF (pre.map (·.1))).1 ++ [(x.1.1:Int)],(dmF (pre.map (·.1))).2):=by
   rw [List.map_append,List.map_singleton,dmF_snoc];unfold dmS;rw [if_neg (by omega),if_pos hx]
 have ht:Touch (fun k=>w.heap.size+1+1<k) W w3:=((Touch.of_below (S:=fun k=>w.heap.size+1+1<k) hb1)).grown hg (fun k hk=>.inl (by have:=owns_base ho k hk;show w.heap.size+1+1<k;omega))
 have h3:=h1.touch ht (fun k h1 h2 h3=>by omega)
 have hb3:Below w.heap.size W w3:=ht.below (by exact hB.size) (fun k hk e=>by omega)
 refine ⟨?_,h3.1,hb3⟩
 unfold OfI
 rw [e]
 refine ⟨b3,c3,by rw [List.length_append];exact h3.set1 _ _ _,?_,(hB.trans hb3).setCell (p:=⟨w.heap.size,0,none⟩) (Nat.le_refl _) _⟩
 rw [icells_append,List.length_append]
 exact owns_touch ho3 (touch_set w3 w.heap.size 0 _) (fun k hk e=>by have:=owns_base ho3 k hk;omega)
end
section
open Go.RowKit Go.Shelf
set_option linter.unusedVariables false
set_option linter.unusedSimpArgs false
attribute [local go_sem] Oper.semAt_some
def OfQ (w:World) (bid p:List Int) (e:Ending) (W:World):Prop :=
 ∃ x c,e=.returned (.tuple #[.slice x (dmF (gnK bid p bid.length)).1.length c,.bool ((dmF (gnK bid p bid.length)).2 == 0),.int .i64 (dmF (gnK bid p bid.length)).2,.int .i64 0])∧Below w.heap.size w W∧IsI W x (dmF (gnK bid p bid.length)).1.length c (dmF (gnK bid p bid.length)).1
theorem of_leaves {w W:World} {bid p:List Int} {a:Option Addr} {n c:Nat} {tmps:Array Value} (h4:tmps.getD 4 undef=.pointer (some ⟨w.heap.size,0,none⟩)) (h5:tmps.getD 5 undef=.pointer (some ⟨w.heap.size+1,0,none⟩)) (h6:tmps.getD 6 undef=.pointer (some ⟨w.heap.size+1+1,0,none⟩)) (h7:tmps.getD 7 undef=.int .i64 0)
   (h:OfC w.heap.size a n c ((dmF (gnK bid p bid.length)).2 == 0) (dmF (gnK bid p bid.length)).2 W) (hi:IsI W a n c (dmF (gnK bid p bid.length)).1) (hb:Below w.heap.size w W):∃ v,(results Tryz.f112 tmps).run Tryz.prog W=.ok v W∧OfQ w bid p (.returned v) W:=by
 obtain ⟨h1,h2,h3⟩:=h
 obtain rfl:=hi.1
 have q1:W.cell? ⟨w.heap.size,0,none⟩=some (.slice a (dmF (gnK bid p bid.length)).1.length c):=by rw [cell_of_block h1];rfl
 have q2:W.cell? ⟨w.heap.size+1,0,none⟩=some (.bool ((dmF (gnK bid p bid.length)).2 == 0)):=by rw [cell_of_block h2];rfl
 have q3:W.cell? ⟨w.heap.size+1+1,0,none⟩=some (.int .i64 (dmF (gnK bid p bid.length)).2):=by rw [cell_of_block h3];rfl
 have h4':tmps[4]?.getD undef=.pointer (some ⟨w.heap.size,0,none⟩):=by rw [← h4];simp
 have h5':tmps[5]?.getD undef=.pointer (some ⟨w.heap.size+1,0,none⟩):=by rw [← h5];simp
 have h6':tmps[6]?.getD undef=.pointer (some ⟨w.heap.size+1+1,0,none⟩):=by rw [← h6];simp
 have h7':tmps[7]?.getD undef=.int .i64 0:=by rw [← h7];simp
 refine ⟨_,?_,a,c,rfl,hb,hi⟩
 simp [results,Tryz.results112,h4',h5',h6',h7',asAddr,go_sem,q1,q2,q3]
theorem KB.touch {S:Nat→Prop} {W W':World} {n₀ Bs:Nat} (ht:Touch S W W') (hn:n₀≤W.heap.size) (h:∀ k,k<n₀→¬ S k) (hB:¬ S Bs):KB n₀ Bs W W':=⟨ht.below hn h,fun v hv=>ht.cell hv hB⟩
theorem of_alsoK {Wx w3:World} {n₀ Bp R n base:Nat} {b:Option Addr} {c:Nat} {xs:List Value} {o:Obj} {a':Addr} {v:Value} {C:Array Value} (ho:Wx.ownsRow base 3 1 (.slice b n c) n xs) (hBp:Wx.heap[Bp]?=some (.cells C 22 (0,0))) (hg:(Wx.alloc o).grownBy w3 (Value.slice b n c).ownBlock) (hn0:n₀≤Wx.heap.size) (hbase:n₀≤base) (ha:n₀≤a'.block) (hab:a'.block≠Bp) :
   KeepsFrom R Wx (w3.setCell a' v)∧KB n₀ Bp Wx (w3.setCell a' v)∧(w3.setCell a' v).heap[Bp]?=some (.cells C 22 (0,0)):=by
 suffices h:Touch (fun k=>base≤k∧k≠Bp∨k=a'.block) Wx (w3.setCell a' v) by
   refine ⟨(((KeepsOthers.alloc _ _).trans (KeepsOthers.of_grownBy hg ?_)).trans (KeepsOthers.setCell _ _ _)).from _,KB.touch h hn0 (fun k hk e => ?_) (fun e => ?_),h.heap hBp (fun e => ?_)⟩
   · intro j q hj hq
     obtain ⟨cur,hcur⟩:=owns_block (ho.alloc o) hj
     rw [hcur] at hq;cases hq;rfl
   · rcases e with ⟨e,_⟩ | e <;> omega
   · rcases e with ⟨_,e⟩ | e
     · exact e rfl
     · exact hab e.symm
   · rcases e with ⟨_,e⟩ | e
     · exact e rfl
     · exact hab e.symm
 refine Touch.setCell (Touch.grown ((Touch.refl _ _).alloc o) hg ?_) _ _ (.inl (.inr rfl))
 intro k hk
 obtain ⟨cur,hcur⟩:=owns_block ho hk
 refine .inl (.inl ⟨owns_base ho k hk,fun e => ?_⟩)
 subst e
 rw [hBp] at hcur;cases hcur
theorem bidB_bd {K:Nat} {bid:List Int} (h:bidB (K:Int) bid=true):bid.length≤K∧(bid.length≠0→okB bid (K:Int)=true)∧∀ z ∈ bid,0≤z∧z≤1000000:=by
 unfold bidB at h
 rw [Bool.or_eq_true,decide_eq_true_eq] at h
 rcases h with h | h
 · have:bid=[]:=List.eq_nil_of_length_eq_zero h
   subst this
   exact ⟨Nat.zero_le _,fun e=>absurd rfl e,fun z hz=>by cases hz⟩
 · have h2:=h
   unfold okB at h2
   rw [Bool.and_eq_true,Bool.and_eq_true,decide_eq_true_eq,decide_eq_true_eq,inB_iff] at h2
   exact ⟨by omega,fun _=>h,h2.2⟩
set_option maxHeartbeats 1000000 in
theorem dgains_any (a pa:Option Addr) (n c pn pc:Nat) (w:World) :
   Calls Tryz.prog 152 #[.slice a n c,.slice pa pn pc] w fun e w' => e=.returned (.func (.func 180) #[] #[.pointer (some ⟨w.heap.size,0,none⟩),.pointer (some ⟨w.heap.size+1,0,none⟩)])∧w'=(w.alloc (.cells #[.slice a n c] 22 (0,0))).alloc (.cells #[.slice pa pn pc] 22 (0,0)):=by
 go_enter Tryz.func152,Tryz.ntmps152
 go_wp2
 go_ret
 exact ⟨rfl,rfl⟩
theorem dgains_stops (Bs Bp:Nat) (a pa:Option Addr) (m cap pm pc:Nat) (bid p:List Int) (hp:PrOk p) (hbl:bid.length≤p.length) (hbb:∀ z ∈ bid,0≤z∧z≤1000000) (wB w0:World) (hb:Below wB.heap.size wB w0) (hI:IsI wB a m cap bid) (hP:IsI wB pa pm pc p) (hBs:w0.heap[Bs]?=some (.cells #[.slice a m cap] 22 (0,0))) (hBp:w0.heap[Bp]?=some (.cells #[.slice pa pm pc] 22 (0,0))) :
   SeqStopsK Fence.wide 1 Tryz.prog 180 #[.pointer (some ⟨Bs,0,none⟩),.pointer (some ⟨Bp,0,none⟩)] GnX.enc (KB wB.heap.size Bp) (fun ys=>ys.map (·.1)=gnK bid p bid.length) (fun pre=>True) 8 w0:=fun l J Jx W hW _ _ hY h0=>by
 have c1:w0.cell? ⟨Bs,0,none⟩=some (.slice a m cap):=by rw [cell_of_block hBs];rfl
 have c2:w0.cell? ⟨Bp,0,none⟩=some (.slice pa pm pc):=by rw [cell_of_block hBp];rfl
 exact callsIn_wide.2 ((callsIn_wide (n:=0)).1 (dgains1_in l Bs Bp a pa m cap pm pc bid p hp hbl hbb wB.heap.size J Jx hY wB rfl hI hP W (hb.trans (hW.mono hb.size)) (cell_later hW c1) (cell_later hW c2) h0))
set_option maxHeartbeats 1000000 in
theorem of_done {w Wd:World} {bid p:List Int} {b:Option Addr} {c3 D:Nat} {tmps:Array Value} (h4:tmps.getD 4 undef=.pointer (some ⟨w.heap.size,0,none⟩)) (h5:tmps.getD 5 undef=.pointer (some ⟨w.heap.size+1,0,none⟩)) (h6:tmps.getD 6 undef=.pointer (some ⟨w.heap.size+1+1,0,none⟩)) (h7:tmps.getD 7 undef=.int .i64 0)
   (h1:OfC w.heap.size b (dmF (gnK bid p bid.length)).1.length c3 false (dmF (gnK bid p bid.length)).2 Wd) (ho:Wd.ownsRow (w.heap.size+1+1+1) 3 1 (.slice b (dmF (gnK bid p bid.length)).1.length c3) (dmF (gnK bid p bid.length)).1.length (icells (dmF (gnK bid p bid.length)).1)) (hB:Below w.heap.size w Wd)
   (hD:w.heap.size+1+1<D) (hK:Wd.heap[D]?=some (.deferred (some []))) :
   LeavesInM Fence.wide 0 Tryz.prog Tryz.f112 tmps (OfQ w bid p) [{ target:=.collected D,args:=#[] },{ target:=.fn (.func 151) #[.pointer (some ⟨w.heap.size,0,none⟩),.pointer (some ⟨w.heap.size+1+1,0,none⟩),.pointer (some ⟨w.heap.size+1,0,none⟩)],args:=#[] }] .returning
     (((Wd.setCell ⟨w.heap.size,0,none⟩ (.slice b (dmF (gnK bid p bid.length)).1.length c3)).setCell ⟨w.heap.size+1,0,none⟩ (.bool false)).setCell ⟨w.heap.size+1+1,0,none⟩ (.int .i64 (dmF (gnK bid p bid.length)).2)).drew:=by
 have hs3:=h1.set3 b (dmF (gnK bid p bid.length)).1.length c3 false (dmF (gnK bid p bid.length)).2
 have t3:Touch (fun k=>k≤w.heap.size+1+1∧w.heap.size≤k) Wd (((Wd.setCell ⟨w.heap.size,0,none⟩ (.slice b (dmF (gnK bid p bid.length)).1.length c3)).setCell ⟨w.heap.size+1,0,none⟩ (.bool false)).setCell ⟨w.heap.size+1+1,0,none⟩ (.int .i64 (dmF (gnK bid p bid.length)).2)).drew :=
   ((((Touch.refl _ _).setCell _ _ (.inl ⟨by show w.heap.size≤_;omega,Nat.le_refl _⟩)).setCell _ _ (.inl ⟨by show w.heap.size+1≤_;omega,by show _≤w.heap.size+1;omega⟩)).setCell _ _ (.inl ⟨Nat.le_refl _,by show _≤w.heap.size+1+1;omega⟩)).drew
 have hsW:OfC w.heap.size b (dmF (gnK bid p bid.length)).1.length c3 false (dmF (gnK bid p bid.length)).2 (((Wd.setCell ⟨w.heap.size,0,none⟩ (.slice b (dmF (gnK bid p bid.length)).1.length c3)).setCell ⟨w.heap.size+1,0,none⟩ (.bool false)).setCell ⟨w.heap.size+1+1,0,none⟩ (.int .i64 (dmF (gnK bid p bid.length)).2)).drew:=hs3
 have ho3:=owns_touch ho t3 (fun k hk e=>by have:=owns_base ho k hk;omega)
 have hB3:Below w.heap.size w _:=hB.trans (t3.below hB.size (fun k hk e=>by omega))
 have hK3:=t3.heap hK (by omega)
 clear h1 ho hB hK t3 hs3
 revert hsW ho3 hB3 hK3
 generalize (((Wd.setCell ⟨w.heap.size,0,none⟩ (.slice b (dmF (gnK bid p bid.length)).1.length c3)).setCell ⟨w.heap.size+1,0,none⟩ (.bool false)).setCell ⟨w.heap.size+1+1,0,none⟩ (.int .i64 (dmF (gnK bid p bid.length)).2)).drew=Wf
 intro hC ho hB hK
 have hcap:=owns_caps ho
 have ho2:=ownsRow_putObj ho (.deferred none) hK rfl
 have hC2:OfC w.heap.size b (dmF (gnK bid p bid.length)).1.length c3 false (dmF (gnK bid p bid.length)).2 (Wf.putObj D (.deferred none)):=by
   obtain ⟨a1,a2,a3⟩:=hC
   exact ⟨by rw [World.putObj_heap_other (by omega)];exact a1,by rw [World.putObj_heap_other (by omega)];exact a2,by rw [World.putObj_heap_other (by omega)];exact a3⟩
 have hB2:=hB.trans (belowK_b (n₀:=w.heap.size) (w:=w) (Nat.le_refl _) Wf D _ (.deferred none) (by omega) hK rfl rfl)
 refine ⟨by simp,.inl ⟨D,_,rfl,run_takeDeferred hK,?_⟩⟩
 refine ⟨by simp,.inr ⟨fun h=>(by simp [Fence.wide] at h),.func 151,_,151,_,rfl,(enters_of Tryz.func151 (by kernel_rfl) rfl) _ _,fun _ _=>trivial,?_⟩⟩
 refine (dof1_any w.heap.size b (dmF (gnK bid p bid.length)).1.length c3 false (dmF (gnK bid p bid.length)).2 _ hC2 hcap.1 hcap.2.1 hcap.2.2).mono ?_
 rintro e u' W' ⟨rfl,⟨v,rfl⟩,hC',ht'⟩
 have hb':=hB2.trans (ht'.below hB2.size (fun k hk e=>by rcases e with e | e <;> omega))
 exact of_leaves h4 h5 h6 h7 hC' (isI_of_owns (owns_touch ho2 ht' (fun k hk e=>by have:=owns_base ho2 k hk;rcases e with e | e <;> omega)) rfl).clip hb'
set_option maxRecDepth 100000 in
set_option maxHeartbeats 8000000 in
theorem dof_any (a pa:Option Addr) (n c pn pc:Nat) (bid p:List Int) (w:World) (h:IsI w a n c bid) (hp:IsI w pa pn pc p) (hpo:PrOk p) (hb:bidB p.length bid=true) :
   Calls Tryz.prog 112 #[.slice a n c,.slice pa pn pc] w (OfQ w bid p):=by
 obtain rfl:=h.1
 obtain rfl:=hp.1
 have hp8:=hpo.l8
 obtain ⟨b0,m0,m1,m2⟩:=alloc3_facts w (.cells #[.slice none 0 0] 22 (0,0)) (.cells #[.bool false] 4 (0,0)) (.cells #[.int .i64 0] 3 (0,0))
 have HI:=Lib.hid (h.below b0)
 have HPI:=Lib.hid (hp.below b0)
 have HIW:=Lib.hid h
 have HPW:=Lib.hid hp
 have HPO:=Lib.hid hpo
 have HBB:=Lib.hid (bidB_bd hb)
 have HBID:=Lib.hid hb
 clear h hp hpo hb
 refine (callsIn_wide (n:=0)).1 ?_
 refine callsIn_of_wp_marks Tryz.func112 rfl trivial ?_ rfl
 simp only [Tryz.ntmps112,List.size_toArray,List.length_cons,List.length_nil,Nat.reduceAdd,Nat.reduceSub,Array.replicate_succ,Array.replicate_zero,List.push_toArray,List.append_toArray,List.nil_append,List.cons_append]
 refine (wpIn_wide (n:=0)).2 ?_
 go_wp2_with fail
 generalize (((w.alloc (.cells #[.slice none 0 0] 22 (0,0))).alloc (.cells #[.bool false] 4 (0,0))).alloc (.cells #[.int .i64 0] 3 (0,0)))=W0 at b0 m0 m1 m2 HI HPI ⊢
 have hblen:=HBB.out.1
 have HC0:Hid (OfC w.heap.size none 0 0 false 0 W0∧Below w.heap.size w W0):=Lib.hid ⟨⟨m0,m1,m2⟩,b0⟩
 clear b0 m0 m1 m2
 refine (dmay_ok pa p.length pc p W0 HPI.out HPO.out).mono ?_;rintro e W1 ⟨rfl,hb1⟩
 have HB1:=Lib.hid hb1
 clear hb1
 by_cases h0:bid.length=0
 case' pos =>
   have d1:decide ((0:Int)<(bid.length:Int))=false:=decide_eq_false (by omega)
   have d2:decide (0<bid.length)=false:=decide_eq_false (by omega)
   have HB2:Hid (Below W0.heap.size W0 W1):=HB1
   obtain ⟨W2,rfl⟩:∃ W2,W2=W1:=⟨_,rfl⟩
   clear h0 HB1
   go_wp2_with fail
 case' neg =>
   have d1:decide ((0:Int)<(bid.length:Int))=true:=decide_eq_true (by omega)
   have d2:decide (0<bid.length)=true:=decide_eq_true (by omega)
   have HOK:=Lib.hid (HBB.out.2.1 h0)
   clear h0
   go_wp2_with fail
   refine (vcheck_any a bid.length c bid (p.length:Int) W1 (HI.out.below HB1.out) ⟨by omega,by omega⟩).mono ?_;rintro e W2 ⟨rfl,hb2⟩
   rw [HOK.out]
   have HB2:Hid (Below W0.heap.size W0 W2):=Lib.hid (HB1.out.trans (hb2.mono HB1.out.size))
   clear hb2 HB1
   go_wp2_with fail
 all_goals
   refine (dgains_any a pa bid.length c p.length pc W2).mono ?_;rintro e W3 ⟨rfl,rfl⟩
   obtain ⟨b3,m3,m4⟩:=alloc2_facts W2 (.cells #[.slice a bid.length c] 22 (0,0)) (.cells #[.slice pa p.length pc] 22 (0,0))
   generalize (W2.alloc (.cells #[.slice a bid.length c] 22 (0,0))).alloc (.cells #[.slice pa p.length pc] 22 (0,0))=W3 at b3 m3 m4 ⊢
   have HB3:Hid (Below W0.heap.size W0 W3):=Lib.hid (HB2.out.trans (b3.mono HB2.out.size))
   have HM3:=Lib.hid m3
   have HM4:=Lib.hid m4
   clear b3 m3 m4
   go_wp2_with fail
   have hsz3:=lt_of_heap HM4.out
   refine (wpIn_wide (n:=2)).1 (wpIn_rangeFunc_ownG rfl (by decide) (gf:=180) (lb:=#[.pointer (some ⟨W2.heap.size,0,none⟩),.pointer (some ⟨W2.heap.size+1,0,none⟩)]) rfl trivial (enters_of Tryz.func180 (by kernel_rfl) rfl)
     (dgains_stops W2.heap.size (W2.heap.size+1) a pa bid.length c p.length pc bid p HPO.out HBB.out.1 HBB.out.2.2 w W3 (HC0.out.2.trans (HB3.out.mono HC0.out.2.size)) HIW.out HPW.out HM3.out HM4.out) KB.t (KB.b (by have:=HC0.out.2.size;have:=HB3.out.size;omega) hsz3) (Below.refl _ _) (fun _=>rfl)
     (fun pre W=>OfI w pre W∧W.heap[W2.heap.size+1]?=some (.cells #[.slice pa p.length pc] 22 (0,0))) (fun _ _ _=>False) (OwnFrom.and (ofI_from w _ (by have:=HC0.out.2.size;have:=HB3.out.size;omega)) (own_heap _ _ _ _)) (fun _ _ _ _ _ hs _ _=>hs)
     ⟨⟨none,0,HC0.out.1.touch (Touch.of_below (S:=fun _=>False) HB3.out) (fun _ _ _=>id),World.ownsRow_nil _ _ _ _,HC0.out.2.trans (HB3.out.mono HC0.out.2.size)⟩,HM4.out⟩ ?_ ?_ ?_ ?_ ?_)
   rotate_left
   · intro l y Wx K hK
     dsimp only [GnX.enc]
     gi_wp2
     exact hK
   · rintro l pre y Wx ⟨hI,hBp⟩ hlen
     have HBP:=Lib.hid hBp
     have hI0:=Lib.hid hI
     obtain ⟨b,c3,h1,ho,hB⟩:=hI
     have k4:Wx.cell? ⟨w.heap.size,0,none⟩=some (.slice b (dmF (pre.map (·.1))).1.length c3):=by rw [cell_of_block h1.1];rfl
     have k6:Wx.cell? ⟨w.heap.size+1+1,0,none⟩=some (.int .i64 (dmF (pre.map (·.1))).2):=by rw [cell_of_block h1.2.2];rfl
     have z4:Wx.frozen? ⟨w.heap.size,0,none⟩=false:=blk_free h1.1
     have z6:Wx.frozen? ⟨w.heap.size+1+1,0,none⟩=false:=blk_free h1.2.2
     have hwx:=lt_of_heap h1.2.2
     have HC:=Lib.hid h1
     have HO:=Lib.hid ho
     have HBX:=Lib.hid hB
     have HY:=Lib.hid y.2
     have hyl:=y.2.1
     have hW2:w.heap.size≤W2.heap.size∧w.heap.size≠W2.heap.size+1∧w.heap.size+1+1≠W2.heap.size+1:=by
       have hs0:=HB2.out.size
       have hs1:=lt_of_heap HC0.out.1.2.2
       exact ⟨by omega,by omega,by omega⟩
     clear h1 ho hB hBp
     by_cases q1:(dmF (pre.map (·.1))).2<y.1.2
     · have e1:decide ((dmF (pre.map (·.1))).2<y.1.2)=true:=decide_eq_true q1
       have HM:=Lib.hid (hI0.out.more y q1)
       have hA:OfC w.heap.size b (dmF (pre.map (·.1))).1.length c3 false (dmF (pre.map (·.1))).2 (Wx.alloc (.cells #[.int .i64 (y.1.1:Int)] 3 (0,0))):=HC.out.touch (Touch.of_below (S:=fun _=>False) ((Below.refl Wx.heap.size _).alloc (Nat.le_refl _) _)) (fun _ _ _=>id)
       have k4a:(Wx.alloc (.cells #[.int .i64 (y.1.1:Int)] 3 (0,0))).cell? ⟨w.heap.size,0,none⟩=some (.slice b (dmF (pre.map (·.1))).1.length c3):=by rw [cell_of_block hA.1];rfl
       have z4a:(Wx.alloc (.cells #[.int .i64 (y.1.1:Int)] 3 (0,0))).frozen? ⟨w.heap.size,0,none⟩=false:=blk_free hA.1
       have hA3:=(Below.heap_setCell (Wx.alloc (.cells #[.int .i64 (y.1.1:Int)] 3 (0,0))) ⟨w.heap.size,0,none⟩ (.slice (some ⟨Wx.heap.size,0,none⟩) 1 1) (w.heap.size+1+1) (by show w.heap.size+1+1≠w.heap.size;omega)).trans hA.2.2
       have k6a:((Wx.alloc (.cells #[.int .i64 (y.1.1:Int)] 3 (0,0))).setCell ⟨w.heap.size,0,none⟩ (.slice (some ⟨Wx.heap.size,0,none⟩) 1 1)).cell? ⟨w.heap.size+1+1,0,none⟩=some (.int .i64 (dmF (pre.map (·.1))).2):=by rw [cell_of_block hA3];rfl
       have z6a:((Wx.alloc (.cells #[.int .i64 (y.1.1:Int)] 3 (0,0))).setCell ⟨w.heap.size,0,none⟩ (.slice (some ⟨Wx.heap.size,0,none⟩) 1 1)).frozen? ⟨w.heap.size+1+1,0,none⟩=false:=blk_free hA3
       have HBM:Hid (Touch (fun k=>k=w.heap.size∨k=w.heap.size+1+1) Wx (((Wx.alloc (.cells #[.int .i64 (y.1.1:Int)] 3 (0,0))).setCell ⟨w.heap.size,0,none⟩ (.slice (some ⟨Wx.heap.size,0,none⟩) 1 1)).setCell ⟨w.heap.size+1+1,0,none⟩ (.int .i64 y.1.2))):=Lib.hid ((((Touch.refl _ _).alloc _).setCell _ _ (.inl (.inl rfl))).setCell _ _ (.inl (.inr rfl)))
       have HKB:Hid (KB w.heap.size (W2.heap.size+1) Wx (((Wx.alloc (.cells #[.int .i64 (y.1.1:Int)] 3 (0,0))).setCell ⟨w.heap.size,0,none⟩ (.slice (some ⟨Wx.heap.size,0,none⟩) 1 1)).setCell ⟨w.heap.size+1+1,0,none⟩ (.int .i64 y.1.2))):=Lib.hid (by
         have hs:=HBX.out.size
         exact KB.touch HBM.out hs (fun k hk e=>by omega) (by omega))
       clear q1 hA hA3
       gi_wp2_with fail
       refine ⟨(((KeepsOthers.alloc _ _).trans (KeepsOthers.setCell _ _ _)).trans (KeepsOthers.setCell _ _ _)).from _,HKB.out,HM.out,(HBM.out.heap HBP.out (by omega))⟩
     · have e1:decide ((dmF (pre.map (·.1))).2<y.1.2)=false:=decide_eq_false q1
       have hdl:(dmF (pre.map (·.1))).1.length<8:=by
         have:=dmF_len (pre.map (·.1))
         rw [List.length_map] at this
         omega
       obtain ⟨i0,hi0,hz0,hz1,hz2⟩:=info_parts infoInt
       by_cases q2:y.1.2=(dmF (pre.map (·.1))).2
       · have HQ2:=Lib.hid q2
         have e2:(y.1.2 == (dmF (pre.map (·.1))).2)=true:=by rw [q2];simp
         clear q1 q2
         have ho:=HO.out
         have hwx2:w.heap.size+1+1+1≤Wx.heap.size+1:=by omega
         gi_wp2_with (gi_at_builtin
                      refine wpListIn_append_own _ rfl _ _ 22 rfl (w.heap.size+1+1+1) 3 i0 (.int .i64 0) 1 8 Tryz.underlying22 hi0 hz0 hz1 hz2 rfl (by decide) _ (dmF (pre.map (·.1))).1.length (icells (dmF (pre.map (·.1))).1) rfl (ho.alloc _) ⟨Wx.heap.size,0,none⟩ 1 1 [.int .i64 (y.1.1:Int)] rfl rfl (one_at Wx _ _) (one_cell _ rfl) (by unfold maxLen;omega) (by omega) (by simpa using hwx2) ?_
                      intro v3 w3 ho3 hg3 _
                      obtain ⟨b3,c5,rfl⟩:=owns_shape ho3
                      have HA3:=Lib.hid (OfI.also y HQ2.out HC.out HO.out HBX.out ((Below.refl Wx.heap.size Wx).alloc (Nat.le_refl _) _) ho3 hg3)
                      have k5:w3.cell? ⟨w.heap.size,0,none⟩=some (.slice b (dmF (pre.map (·.1))).1.length c3):=by rw [cell_of_block HA3.out.2.1];rfl
                      have z5:w3.frozen? ⟨w.heap.size,0,none⟩=false:=blk_free HA3.out.2.1
                      have HK3:Hid (KeepsFrom W3.heap.size Wx (w3.setCell ⟨w.heap.size,0,none⟩ (.slice b3 ((dmF (pre.map (·.1))).1.length+1) c5))∧KB w.heap.size (W2.heap.size+1) Wx (w3.setCell ⟨w.heap.size,0,none⟩ (.slice b3 ((dmF (pre.map (·.1))).1.length+1) c5))∧(w3.setCell ⟨w.heap.size,0,none⟩ (.slice b3 ((dmF (pre.map (·.1))).1.length+1) c5)).heap[W2.heap.size+1]?=some (.cells #[.slice pa p.length pc] 22 (0,0))):=Lib.hid (of_alsoK HO.out HBP.out hg3 (by omega) (by omega) (Nat.le_refl _) hW2.2.1)
                      clear ho3 hg3)
         exact ⟨HK3.out.1,HK3.out.2.1,by simpa using HA3.out.1,HK3.out.2.2⟩
       · have e2:(y.1.2 == (dmF (pre.map (·.1))).2)=false:=by simpa using q2
         have HM:=Lib.hid (hI0.out.same y q1 q2)
         clear q1 q2
         gi_wp2_with fail
         exact ⟨(KeepsOthers.refl _).from _,⟨Below.refl _ _,fun _ h=>h⟩,HM.out,HBP.out⟩
   · rintro D ys Wd hD hS hI hK
     have HS:=Lib.hid hS
     have HK:=Lib.hid hK
     obtain ⟨⟨b,c3,h1,ho,hB⟩,_⟩:=hI
     rw [hS] at h1 ho
     have k4:Wd.cell? ⟨w.heap.size,0,none⟩=some (.slice b (dmF (gnK bid p bid.length)).1.length c3):=by rw [cell_of_block h1.1];rfl
     have k5:Wd.cell? ⟨w.heap.size+1,0,none⟩=some (.bool false):=by rw [cell_of_block h1.2.1];rfl
     have k6:Wd.cell? ⟨w.heap.size+1+1,0,none⟩=some (.int .i64 (dmF (gnK bid p bid.length)).2):=by rw [cell_of_block h1.2.2];rfl
     have z4:Wd.frozen? ⟨w.heap.size,0,none⟩=false:=blk_free h1.1
     have z5:Wd.frozen? ⟨w.heap.size+1,0,none⟩=false:=blk_free h1.2.1
     have z6:Wd.frozen? ⟨w.heap.size+1+1,0,none⟩=false:=blk_free h1.2.2
     have HC:=Lib.hid h1
     have HO:=Lib.hid ho
     have HBX:=Lib.hid hB
     clear h1 ho hB hS hK
     gi_wp2_with fail
     go_wp2_with fail
     go_region
     go_wp2_with fail
     exact of_done rfl rfl rfl rfl HC.out HO.out HBX.out (by have h9:=lt_of_heap HC0.out.1.2.2;have h8:=HB3.out.size;omega) HK.out
     done
   · intros
     contradiction
end
end Go.Proofs.YtmmmjohoihpbeaaGreat
