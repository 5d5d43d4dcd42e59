/- The package demands: may,gains;conditions: those typed. -/
import Derived.Test.YtmmmjohoihpbeaaGreatTJwI
namespace Go.Proofs.YtmmmjohoihpbeaaGreat
section
open Go.RowKit Go.Shelf
set_option linter.unusedVariables false
set_option linter.unusedSimpArgs false
attribute [local go_sem] Oper.semAt_some
structure PrOk (p:List Int):Prop where
 l1:1≤p.length
 l8:p.length≤8
 b:∀ z ∈ p,0≤z∧z≤2000000
theorem dmay1_any (n:Int) (w:World) (h:0≤n∧n≤2000000) :
   Calls Tryz.prog 150 #[.int .i64 n] w fun e w' => e=.returned (.bool false)∧Below w.heap.size w w':=by
 have d1:decide (n<0)=false:=decide_eq_false (by omega)
 have d2:decide (2000000<n)=false:=decide_eq_false (by omega)
 go_enter Tryz.func150,Tryz.ntmps150
 go_wp2_with fail
 go_ret
 exact ⟨rfl,Below.refl _ _⟩
set_option maxHeartbeats 1000000 in
theorem dmay_ok (a:Option Addr) (n c:Nat) (p:List Int) (w:World) (h:IsI w a n c p) (hp:PrOk p) :
   Calls Tryz.prog 111 #[.slice a n c,.int .i64 (p.length:Int)] w fun e w' => e=.returned (.bool true)∧Below w.heap.size w w':=by
 obtain rfl:=h.1
 have h1:=hp.l1
 have h8:=hp.l8
 have d1:decide ((1:Int)≤(p.length:Int))=true:=decide_eq_true (by omega)
 have d2:decide ((p.length:Int)≤8)=true:=decide_eq_true (by omega)
 have d3:decide (1≤p.length)=true:=decide_eq_true h1
 have d4:decide (p.length≤8)=true:=decide_eq_true h8
 have HI:=Lib.hid h
 have HP:=Lib.hid hp
 clear h hp
 go_enter Tryz.func111,Tryz.ntmps111
 go_wp2_with fail
 refine (conI_gen 150 #[] (fun _=>false) a p.length c p w HI.out (fun x W' => (enters_of Tryz.func150 (by kernel_rfl) rfl) _ _) (fun z hz W' hW' => dmay1_any z W' (HP.out.b z hz))).mono ?_
 rintro e w1 ⟨rfl,hb1⟩
 have HA:Hid (p.any (fun _=>false)=false):=Lib.hid (by simp)
 have HB1:=Lib.hid hb1
 clear hb1
 rw [HA.out]
 go_wp2_with fail
 go_ret
 exact ⟨rfl,HB1.out⟩
abbrev GnX:={ x:Nat × Int // x.1<8∧-2000000≤x.2∧x.2≤1000000 }
def GnX.enc (x:GnX):Array Value:=#[.int .i64 (x.1.1:Int),.int .i64 x.1.2]
def gnK (bid p:List Int) (k:Nat):List (Nat × Int):=(List.range k).map fun i=>(i,bid.getD i 0 - p.getD i 0)
theorem gnK_succ (bid p:List Int) (k:Nat):gnK bid p (k+1)=gnK bid p k ++ [(k,bid.getD k 0 - p.getD k 0)]:=by simp [gnK,List.range_succ]
theorem gnK_length (bid p:List Int) (k:Nat):(gnK bid p k).length=k:=by simp [gnK]
set_option maxRecDepth 100000 in
set_option maxHeartbeats 4000000 in
theorem dgains1_in (l Bs Bp:Nat) (a pa:Option Addr) (m cap pm pc:Nat) (bid p:List Int) (hp:PrOk p) (hbl:bid.length≤p.length) (hbb:∀ z ∈ bid,0≤z∧z≤1000000) (n₀:Nat) (J Jx:List GnX→World→Prop)
   (hY:∀ pre x W,J pre W→pre.length<8→YieldAt Fence.wide 0 Tryz.prog l (GnX.enc x) W fun e W' =>
     (e=.returned (.bool true)∧J (pre ++ [x]) W'∧KB n₀ Bp W W')∨(e=.returned (.bool false)∧Jx (pre ++ [x]) W'))
   (w0:World) (hn₀:w0.heap.size=n₀) (hI:IsI w0 a m cap bid) (hP:IsI w0 pa pm pc p) (W:World) (hW:Below n₀ w0 W) (f1:W.cell? ⟨Bs,0,none⟩=some (.slice a m cap)) (f2:W.cell? ⟨Bp,0,none⟩=some (.slice pa pm pc)) (h0:J [] W) :
   CallsIn Fence.wide 0 Tryz.prog 180 #[.func (.yield l) #[] #[],.pointer (some ⟨Bs,0,none⟩),.pointer (some ⟨Bp,0,none⟩)] W fun e W' => (∃ v,e=.returned v) ∧
     ((∃ ys:List GnX,ys.map (·.1)=gnK bid p bid.length∧J ys W')∨(∃ pre,True∧Jx pre W')):=by
 obtain rfl:=hI.1
 obtain rfl:=hP.1
 subst hn₀
 have h8:=hp.l8
 have HI:=Lib.hid hI
 have HP:=Lib.hid hP
 have HPO:=Lib.hid hp
 have HBB:=Lib.hid hbb
 have HY:=Lib.hid hY
 have HW:=Lib.hid hW
 have HF2:=Lib.hid f2
 have H0:=Lib.hid h0
 clear hp hbb hI hP hY hW h0 f2
 refine callsIn_of_wp Tryz.func180 rfl trivial ?_ rfl
 simp only [Tryz.ntmps180,List.size_toArray,List.length_cons,List.length_nil,Nat.reduceAdd,Nat.reduceSub,Array.replicate_succ,Array.replicate_zero,List.push_toArray,List.append_toArray,List.nil_append,List.cons_append]
 gi_wp2
 gi_loopw [8] (fun i wr => ∃ k:Nat,k≤bid.length∧i=.int .i64 (k:Int)∧Hid (∃ pre:List GnX,pre.map (·.1)=gnK bid p k∧J pre wr∧KB w0.heap.size Bp W wr)) (fun i _=>bid.length - (intOf i).toNat)
 case atStart=>exact ⟨0,Nat.zero_le _,rfl,Lib.hid ⟨[],rfl,H0.out,Below.refl _ _,fun _ h=>h⟩⟩
 case round =>
   obtain ⟨k,hk,rfl,HS⟩:=hrel
   obtain ⟨pre,hpre,hJ,hb⟩:=HS.out
   clear HS
   by_cases hlt:k<bid.length
   · have hkp:k<p.length:=by omega
     obtain ⟨b1,o1,rfl,hb1,hc1⟩:=HI.out.at k hlt
     obtain ⟨b2,o2,rfl,hb2,hc2⟩:=HP.out.at k hkp
     have hb':=HW.out.trans hb.1
     have k1:=cell_later hb' hc1
     have k2:=cell_later hb' hc2
     have k3:=hb.2 _ HF2.out
     have hz1:=HBB.out _ (List.getElem_mem hlt)
     have hz2:=HPO.out.b _ (List.getElem_mem hkp)
     have e1:bid.getD k 0=bid[k]:=getD_get hlt
     have e2:p.getD k 0=p[k]:=getD_get hkp
     have HG:Hid (gnK bid p (k+1)=gnK bid p k ++ [(k,bid[k] - p[k])]):=Lib.hid (by rw [gnK_succ,e1,e2])
     generalize bid[k]=x at k1 hz1 HG
     generalize p[k]=y at k2 hz2 HG
     obtain ⟨fn,tmps,assign,body,hy,hR⟩:=HY.out pre ⟨(k,x - y),by show k<8;omega,by show -2000000≤x - y;omega,by show x - y≤1000000;omega⟩ wr hJ (by
       have:pre.length=k:=by rw [← gnK_length bid p k,← hpre,List.length_map]
       omega)
     dsimp only [GnX.enc] at hy hR
     have HR:=Lib.hid hR
     have HP1:=Lib.hid hpre
     have HB:=Lib.hid hb
     clear hR hc1 hc2 e1 e2 hpre hJ hb hb'
     gi_wp2
     refine ⟨rfl,?_⟩
     refine HR.out.mono ?_
     rintro e W3 (⟨rfl,hJ3,hk3⟩ | ⟨rfl,hJx3⟩)
     · have HJ3:Hid (∃ pre:List GnX,pre.map (·.1)=gnK bid p (k+1)∧J pre W3∧KB w0.heap.size Bp W W3):=Lib.hid ⟨_,by rw [List.map_append,HP1.out,HG.out];rfl,hJ3,HB.out.t hk3⟩
       clear hJ3 hk3
       gi_wp2
       go_roundw
       case rel=>exact ⟨k+1,by omega,by go_num,HJ3⟩
       case measure=>simp [intOf];omega
     · gi_wp2
       refine bodyPost_ret (results_none rfl _ _ _) rfl ?_
       exact ⟨⟨_,rfl⟩,.inr ⟨_,trivial,hJx3⟩⟩
   · have hkk:k=bid.length:=by omega
     subst hkk
     have HF:Hid (∃ ys:List GnX,ys.map (·.1)=gnK bid p bid.length∧J ys wr):=Lib.hid ⟨pre,hpre,hJ⟩
     clear hpre hJ hb
     gi_wp2
     go_end0
     exact ⟨⟨_,rfl⟩,.inl HF.out⟩
end
section
open Go.RowKit Go.Shelf
set_option linter.unusedVariables false
set_option linter.unusedSimpArgs false
attribute [local go_sem] Oper.semAt_some
def OfC (B:Nat) (a:Option Addr) (n c:Nat) (nb:Bool) (g:Int) (W:World):Prop :=
 W.heap[B]?=some (.cells #[.slice a n c] 22 (0,0))∧W.heap[B+1]?=some (.cells #[.bool nb] 4 (0,0))∧W.heap[B+1+1]?=some (.cells #[.int .i64 g] 3 (0,0))
theorem OfC.clip {B:Nat} {a:Option Addr} {n c:Nat} {nb:Bool} {g:Int} {W:World} (h:OfC B a n c nb g W) :
   OfC B a n n (g == 0) g (((W.setCell ⟨B,0,none⟩ (.slice a n n)).setCell ⟨B+1,0,none⟩ (.bool (g == 0))).drew)∧Touch (fun k=>k=B∨k=B+1) W (((W.setCell ⟨B,0,none⟩ (.slice a n n)).setCell ⟨B+1,0,none⟩ (.bool (g == 0))).drew):=by
 obtain ⟨h1,h2,h3⟩:=h
 have g1:=heap_setCell_same W B 0 _ _ (.slice a n n) h1
 have g2:=(Below.heap_setCell W ⟨B,0,none⟩ (.slice a n n) (B+1) (by show B+1≠B;omega)).trans h2
 have g3:=(Below.heap_setCell W ⟨B,0,none⟩ (.slice a n n) (B+1+1) (by show B+1+1≠B;omega)).trans h3
 have t1:Touch (fun k=>k=B∨k=B+1) W (W.setCell ⟨B,0,none⟩ (.slice a n n)):=Touch.setCell (Touch.refl _ _) _ _ (.inl (.inl rfl))
 generalize W.setCell ⟨B,0,none⟩ (.slice a n n)=W1 at *
 refine ⟨⟨(Below.heap_setCell W1 ⟨B+1,0,none⟩ (.bool (g == 0)) B (by show B≠B+1;omega)).trans g1,heap_setCell_same W1 (B+1) 0 _ _ (.bool (g == 0)) g2,(Below.heap_setCell W1 ⟨B+1,0,none⟩ (.bool (g == 0)) (B+1+1) (by show B+1+1≠B+1;omega)).trans g3⟩,(t1.setCell _ _ (.inl (.inr rfl))).drew⟩
set_option maxRecDepth 100000 in
set_option maxHeartbeats 4000000 in
theorem dof1_any (B:Nat) (a:Option Addr) (n c:Nat) (nb:Bool) (g:Int) (W:World) (h:OfC B a n c nb g W) (hn:n≤c) (hc:c≤maxLen) (ha:a=none→c=0) :
   CallsDIn Fence.wide 0 Tryz.prog 151 #[.pointer (some ⟨B,0,none⟩),.pointer (some ⟨B+1+1,0,none⟩),.pointer (some ⟨B+1,0,none⟩)] .returning W fun e u' W' => u'=.returning∧(∃ v,e=.returned v)∧OfC B a n n (g == 0) g W'∧Touch (fun k=>k=B∨k=B+1) W W':=by
 obtain ⟨h1,h2,h3⟩:=h
 have f1:W.cell? ⟨B,0,none⟩=some (.slice a n c):=by rw [cell_of_block h1];rfl
 have f2:W.cell? ⟨B+1,0,none⟩=some (.bool nb):=by rw [cell_of_block h2];rfl
 have f3:W.cell? ⟨B+1+1,0,none⟩=some (.int .i64 g):=by rw [cell_of_block h3];rfl
 have z1:W.frozen? ⟨B,0,none⟩=false:=blk_free h1
 have z2:W.frozen? ⟨B+1,0,none⟩=false:=blk_free h2
 have HF:=Lib.hid (OfC.clip ⟨h1,h2,h3⟩)
 clear h1 h2 h3
 refine callsDIn_of_wp Tryz.func151 rfl trivial ?_ rfl
 simp only [Tryz.ntmps151,List.size_toArray,List.length_cons,List.length_nil,Nat.reduceAdd,Nat.reduceSub,Array.replicate_succ,Array.replicate_zero,List.push_toArray,List.append_toArray,List.nil_append,List.cons_append]
 refine (wpIn_wide (n:=0)).2 ?_
 go_wp2_with fail
 go_region_with ((go_at_call 69;refine (iclip_any a n c _ hn hc ha).mono ?_;rintro e w' ⟨rfl,rfl⟩))
 all_goals
   have H:=HF.out
   clear HF
   go_end0
   exact ⟨⟨_,rfl⟩,H.1,H.2⟩
def dmS (s:List Int × Int) (x:Nat × Int):List Int × Int:=if s.2<x.2 then ([(x.1:Int)],x.2) else if x.2=s.2 then (s.1 ++ [(x.1:Int)],s.2) else s
def dmF (l:List (Nat × Int)):List Int × Int:=l.foldl dmS ([],0)
theorem dmF_snoc (l:List (Nat × Int)) (x:Nat × Int):dmF (l ++ [x])=dmS (dmF l) x:=by simp [dmF]
theorem dmF_len (l:List (Nat × Int)):(dmF l).1.length≤l.length:=by
 have:∀ (n:Nat) (l:List (Nat × Int)) (s:List Int × Int),s.1.length≤n→(l.foldl dmS s).1.length≤n+l.length:=by
   intro n l
   induction l generalizing n with
   | nil=>intro s h;exact h
   | cons x l ih =>
     intro s h
     have h1:(dmS s x).1.length≤n+1:=by
       unfold dmS
       split
       · simp
       · split
         · simp;omega
         · omega
     have:=ih (n+1) (dmS s x) h1
     rw [List.foldl_cons,List.length_cons];omega
 have h:=this 0 l ([],0) (Nat.le_refl _)
 rw [Nat.zero_add] at h
 exact h
theorem OfC.touch {B:Nat} {a:Option Addr} {n c:Nat} {nb:Bool} {g:Int} {S:Nat→Prop} {W W':World} (h:OfC B a n c nb g W) (ht:Touch S W W') (hs:∀ k,B≤k→k≤B+1+1→¬ S k):OfC B a n c nb g W' :=
 ⟨ht.heap h.1 (hs _ (Nat.le_refl _) (by omega)),ht.heap h.2.1 (hs _ (by omega) (by omega)),ht.heap h.2.2 (hs _ (by omega) (Nat.le_refl _))⟩
theorem OfC.set3 {B:Nat} {a:Option Addr} {n c:Nat} {nb:Bool} {g:Int} {W:World} (h:OfC B a n c nb g W) (a':Option Addr) (n' c':Nat) (nb':Bool) (g':Int) :
   OfC B a' n' c' nb' g' (((W.setCell ⟨B,0,none⟩ (.slice a' n' c')).setCell ⟨B+1,0,none⟩ (.bool nb')).setCell ⟨B+1+1,0,none⟩ (.int .i64 g')):=by
 obtain ⟨h1,h2,h3⟩:=h
 have g1:=heap_setCell_same W B 0 _ _ (.slice a' n' c') h1
 have g2:=(Below.heap_setCell W ⟨B,0,none⟩ (.slice a' n' c') (B+1) (by show B+1≠B;omega)).trans h2
 have g3:=(Below.heap_setCell W ⟨B,0,none⟩ (.slice a' n' c') (B+1+1) (by show B+1+1≠B;omega)).trans h3
 generalize W.setCell ⟨B,0,none⟩ (.slice a' n' c')=W1 at *
 have k1:=(Below.heap_setCell W1 ⟨B+1,0,none⟩ (.bool nb') B (by show B≠B+1;omega)).trans g1
 have k2:=heap_setCell_same W1 (B+1) 0 _ _ (.bool nb') g2
 have k3:=(Below.heap_setCell W1 ⟨B+1,0,none⟩ (.bool nb') (B+1+1) (by show B+1+1≠B+1;omega)).trans g3
 generalize W1.setCell ⟨B+1,0,none⟩ (.bool nb')=W2 at *
 exact ⟨(Below.heap_setCell W2 ⟨B+1+1,0,none⟩ (.int .i64 g') B (by show B≠B+1+1;omega)).trans k1,(Below.heap_setCell W2 ⟨B+1+1,0,none⟩ (.int .i64 g') (B+1) (by show B+1≠B+1+1;omega)).trans k2,heap_setCell_same W2 (B+1+1) 0 _ _ (.int .i64 g') k3⟩
theorem OfC.set2 {B:Nat} {a:Option Addr} {n c:Nat} {nb:Bool} {g:Int} {W:World} (h:OfC B a n c nb g W) (a':Option Addr) (n' c':Nat) (g':Int) :
   OfC B a' n' c' nb g' ((W.setCell ⟨B,0,none⟩ (.slice a' n' c')).setCell ⟨B+1+1,0,none⟩ (.int .i64 g')):=by
 obtain ⟨h1,h2,h3⟩:=h
 have g1:=heap_setCell_same W B 0 _ _ (.slice a' n' c') h1
 have g2:=(Below.heap_setCell W ⟨B,0,none⟩ (.slice a' n' c') (B+1) (by show B+1≠B;omega)).trans h2
 have g3:=(Below.heap_setCell W ⟨B,0,none⟩ (.slice a' n' c') (B+1+1) (by show B+1+1≠B;omega)).trans h3
 generalize W.setCell ⟨B,0,none⟩ (.slice a' n' c')=W1 at *
 exact ⟨(Below.heap_setCell W1 ⟨B+1+1,0,none⟩ (.int .i64 g') B (by show B≠B+1+1;omega)).trans g1,(Below.heap_setCell W1 ⟨B+1+1,0,none⟩ (.int .i64 g') (B+1) (by show B+1≠B+1+1;omega)).trans g2,heap_setCell_same W1 (B+1+1) 0 _ _ (.int .i64 g') g3⟩
theorem OfC.set1 {B:Nat} {a:Option Addr} {n c:Nat} {nb:Bool} {g:Int} {W:World} (h:OfC B a n c nb g W) (a':Option Addr) (n' c':Nat):OfC B a' n' c' nb g (W.setCell ⟨B,0,none⟩ (.slice a' n' c')) :=
 ⟨heap_setCell_same W B 0 _ _ (.slice a' n' c') h.1,(Below.heap_setCell W ⟨B,0,none⟩ (.slice a' n' c') (B+1) (by show B+1≠B;omega)).trans h.2.1,(Below.heap_setCell W ⟨B,0,none⟩ (.slice a' n' c') (B+1+1) (by show B+1+1≠B;omega)).trans h.2.2⟩
def OfI (w:World) (pre:List GnX) (W:World):Prop:=∃ b c,OfC w.heap.size b (dmF (pre.map (·.1))).1.length c false (dmF (pre.map (·.1))).2 W∧W.ownsRow (w.heap.size+1+1+1) 3 1 (.slice b (dmF (pre.map (·.1))).1.length c) (dmF (pre.map (·.1))).1.length (icells (dmF (pre.map (·.1))).1)∧Below w.heap.size w W
theorem owns_own {w w':World} {base n:Nat} {v:Value} {xs:List Value} {row:Option Nat} (h:w.ownsRow base 3 1 v n xs) (hg:w.grownBy w' row) (hr:∀ r,row=some r→∃ o:Obj,w.heap[r]?=some o∧o.isCells=false):w'.ownsRow base 3 1 v n xs:=by
 refine h.kept hg ?_
 cases hob:v.ownBlock with
 | none=>exact .inl rfl
 | some k =>
   refine .inr (fun e => ?_)
   obtain ⟨o,h1,h2⟩:=hr k e.symm
   obtain ⟨cur,hcur⟩:=owns_block h hob
   rw [hcur] at h1;cases h1;cases h2
theorem ofI_from (w:World) (C:Nat) (hC:w.heap.size≤C):OwnFrom C (OfI w):=fun s A A' row hs hg hr=>by
 obtain ⟨b,c,⟨h1,h2,h3⟩,h4,h5⟩:=hs
 have hr':∀ r,row=some r→∃ o:Obj,A.heap[r]?=some o∧o.isCells=false:=fun r e=>(hr r e).2
 exact ⟨b,c,⟨heap_own h1 hg hr',heap_own h2 hg hr',heap_own h3 hg hr'⟩,owns_own h4 hg hr',ownFrom_below (β:=Unit) (Nat.le_refl _) hC () A A' row h5 hg hr⟩
theorem OfI.more {w W:World} {pre:List GnX} (h:OfI w pre W) (x:GnX) (hx:(dmF (pre.map (·.1))).2<x.1.2):OfI w (pre ++ [x]) (((W.alloc (.cells #[.int .i64 (x.1.1:Int)] 3 (0,0))).setCell ⟨w.heap.size,0,none⟩ (.slice (some ⟨W.heap.size,0,none⟩) 1 1)).setCell ⟨w.heap.size+1+1,0,none⟩ (.int .i64 x.1.2)):=by
 obtain ⟨b,c,h1,h2,h3⟩:=h
 have hb1:Below W.heap.size W (W.alloc (.cells #[.int .i64 (x.1.1:Int)] 3 (0,0))):=(Below.refl _ _).alloc (Nat.le_refl _) _
 have hlt:=lt_of_heap h1.2.2
 have e:dmF ((pre ++ [x]).map (·.1))=([(x.1.1:Int)],x.1.2):=by
   rw [List.map_append,List.map_singleton,dmF_snoc];unfold dmS;rw [if_pos hx]
 have h1':=(h1.touch (Touch.of_below (S:=fun _=>False) hb1) (fun _ _ _=>id)).set2 (some ⟨W.heap.size,0,none⟩) 1 1 x.1.2
 refine ⟨some ⟨W.heap.size,0,none⟩,1,by rw [e];exact h1',?_,?_⟩
 · rw [e]
   refine ⟨rfl,.inr ⟨W.heap.size,1,#[.int .i64 (x.1.1:Int)],rfl,by omega,?_,Nat.le_refl _,by decide,rfl,rfl⟩⟩
   rw [Below.heap_setCell _ _ _ _ (by show W.heap.size≠w.heap.size+1+1;omega),Below.heap_setCell _ _ _ _ (by show W.heap.size≠w.heap.size;omega)]
   exact heap_new W _
 · exact ((h3.trans (hb1.mono h3.size)).setCell (p:=⟨w.heap.size,0,none⟩) (Nat.le_refl _) _).setCell (p:=⟨w.heap.size+1+1,0,none⟩) (by show w.heap.size≤w.heap.size+1+1;omega) _
theorem OfI.same {w W:World} {pre:List GnX} (h:OfI w pre W) (x:GnX) (hx:¬ (dmF (pre.map (·.1))).2<x.1.2) (hx2:¬ x.1.2=(dmF (pre.map (·.1))).2):OfI w (pre ++ [x]) W:=by
 have e:dmF ((pre ++ [x]).map (·.1))=dmF (pre.map (·.1)):=by
   rw [List.map_append,List.map_singleton,dmF_snoc];unfold dmS;rw [if_neg hx,if_neg hx2]
 unfold OfI
 rw [e]
 exact h
theorem OfI.also {w W W1 w3:World} {pre:List GnX} (x:GnX) (hx:x.1.2=(dmF (pre.map (·.1))).2) {b b3:Option Addr} {c c3:Nat} (h1:OfC w.heap.size b (dmF (pre.map (·.1))).1.length c false (dmF (pre.map (·.1))).2 W) (ho:W.ownsRow (w.heap.size+1+1+1) 3 1 (.slice b (dmF (pre.map (·.1))).1.length c) (dmF (pre.map (·.1))).1.length (icells (dmF (pre.map (·.1))).1)) (hB:Below w.heap.size w W)
   (hb1:Below W.heap.size W W1) (ho3:w3.ownsRow (w.heap.size+1+1+1) 3 1 (.slice b3 ((dmF (pre.map (·.1))).1.length+1) c3) ((dmF (pre.map (·.1))).1.length+1) (icells (dmF (pre.map (·.1))).1 ++ [.int .i64 (x.1.1:Int)])) (hg:W1.grownBy w3 (Value.slice b (dmF (pre.map (·.1))).1.length c).ownBlock) :
   OfI w (pre ++ [x]) (w3.setCell ⟨w.heap.size,0,none⟩ (.slice b3 ((dmF (pre.map (·.1))).1.length+1) c3))∧w3.heap[w.heap.size]?=some (.cells #[.slice b (dmF (pre.map (·.1))).1.length c] 22 (0,0))∧Below w.heap.size W w3:=by
 have e:dmF ((pre ++ [x]).map (·.1))=((dmF (pre.map (·.1))).1 ++ [(x.1.1:Int)],(dmF (pre.map (·.1))).2):=by
   rw [List.map_append,List.map_singleton,dmF_snoc];unfold dmS;rw [if_neg (by omega),if_pos hx]
 have ht:Touch (fun k=>w.heap.size+1+1<k) W w3:=((Touch.of_below (S:=fun k=>w.heap.size+1+1<k) hb1)).grown hg (fun k hk=>.inl (by have:=owns_base ho k hk;show w.heap.size+1+1<k;omega))
 have h3:=h1.touch ht (fun k h1 h2 h3=>by omega)
 have hb3:Below w.heap.size W w3:=ht.below (by exact hB.size) (fun k hk e=>by omega)
 refine ⟨?_,h3.1,hb3⟩
 unfold OfI
 rw [e]
 refine ⟨b3,c3,by rw [List.length_append];exact h3.set1 _ _ _,?_,(hB.trans hb3).setCell (p:=⟨w.heap.size,0,none⟩) (Nat.le_refl _) _⟩
 rw [icells_append,List.length_append]
 exact owns_touch ho3 (touch_set w3 w.heap.size 0 _) (fun k hk e=>by have:=owns_base ho3 k hk;omega)
end
end Go.Proofs.YtmmmjohoihpbeaaGreat
