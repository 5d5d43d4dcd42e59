/- The library's slices.Values,AppendSeq at ints;conditions: those typed. -/
import Derived.Test.YtmmmjohoihpbeaaGreatQONumsGet
import Derived.Test.YtmmmjohoihpbeaaGreatQOGIntsLeftI
import Derived.Test.YtmmmjohoihpbeaaGreatQOGSlicesB
import Derived.Shelf.SlIter.Collect
namespace Go.Proofs.YtmmmjohoihpbeaaGreat
section
open Go.RowKit Go.Shelf
set_option linter.unusedVariables false
set_option linter.unusedSimpArgs false
attribute [local go_sem] Oper.semAt_some
theorem rowInt:RowTy Tryz.prog 22 3 1 8 (.int .i64 0):=⟨Tryz.underlying22,infoInt,rfl,by decide⟩
set_option maxRecDepth 100000 in
set_option maxHeartbeats 2000000 in
theorem values1_in (F:Fence) (n:Nat) (h8:F.fn 97) (hro:F.round=none) (hn:1≤n) (l Bs n₀ b off cap:Nat) (zs:List Int) (hreach:zs.length≤140737488351232) (hb:b<n₀) (hB:Bs<n₀) (J Jx:List Int→World→Prop)
   (hY:∀ pre x W,J pre W→pre.length<zs.length→YieldAt F (n - 1) Tryz.prog l #[.int .i64 x] W fun e W' =>
     (e=.returned (.bool true)∧J (pre ++ [x]) W'∧Below n₀ W W')∨(e=.returned (.bool false)∧Jx (pre ++ [x]) W'))
   (W:World) (hBs:W.cell? ⟨Bs,0,none⟩=some (.slice (some ⟨b,off,none⟩) zs.length cap)) (hc:∀ i (h:i<zs.length),W.cell? ⟨b,off+i,none⟩=some (.int .i64 zs[i])) (h0:J [] W) :
   CallsIn F n Tryz.prog 97 #[.func (.yield l) #[] #[],.pointer (some ⟨Bs,0,none⟩)] W fun e W' => (∃ v,e=.returned v) ∧
     ((∃ ys,ys=zs∧J ys W')∨(∃ pre,(∃ k,k≤zs.length∧pre=zs.take k)∧Jx pre W')):=by
 have HB:=Lib.hid hB
 have HBB:=Lib.hid hb
 have HC:=Lib.hid hc
 clear hB hb hc
 refine callsIn_of_wp Tryz.func97 rfl h8 ?_ hro
 simp only [Tryz.ntmps97,List.size_toArray,List.length_cons,List.length_nil,Nat.reduceAdd,Nat.reduceSub,Array.replicate_succ,Array.replicate_zero,List.push_toArray,List.append_toArray,List.nil_append,List.cons_append]
 gi_wp2
 gi_loopw [7] (fun i wr => ∃ k:Nat,k≤zs.length∧i=.int .i64 k∧J (zs.take k) wr∧Below n₀ W wr) (fun i _=>zs.length - (intOf i).toNat)
 case atStart=>exact ⟨0,Nat.zero_le _,rfl,by simpa using h0,Below.refl _ _⟩
 case round =>
   obtain ⟨k,hk,rfl,hJs,hnx⟩:=hrel
   by_cases hlt:k<zs.length
   · have hcx:wr.cell? ⟨b,off+k,none⟩=some (.int .i64 zs[k]):=(hnx.cell (p:=⟨b,off+k,none⟩) HBB.out).trans (HC.out k hlt)
     have hlk:(zs.take k).length=k:=by simp;omega
     obtain ⟨fn,tmps,assign,body,hy,hR⟩:=hY _ zs[k] wr hJs (by rw [hlk];exact hlt)
     have HT:=Lib.hid (List.take_succ_eq_append_getElem hlt)
     generalize zs[k]=z at hcx hy hR HT
     clear hlk
     gi_wp2
     refine hR.mono ?_
     rintro e W3 (⟨rfl,hJ3,hk3⟩ | ⟨rfl,hJx3⟩)
     · gi_wp2
       go_roundw
       case rel=>exact ⟨k+1,by omega,by go_num,by rw [HT.out];exact hJ3,hnx.trans hk3⟩
       case measure=>simp [intOf];omega
     · gi_wp2
       refine bodyPost_ret (results_none rfl _ _ _) rfl ?_
       exact ⟨⟨_,rfl⟩,.inr ⟨_,⟨k+1,by omega,HT.out.symm⟩,hJx3⟩⟩
   · obtain rfl:k=zs.length:=by omega
     gi_wp2
     go_end0
     exact ⟨⟨_,rfl⟩,.inl ⟨zs,rfl,by simpa using hJs⟩⟩
set_option maxRecDepth 100000 in
set_option maxHeartbeats 1000000 in
theorem values1_nil_in (F:Fence) (n:Nat) (h8:F.fn 97) (hro:F.round=none) (l Bs cap:Nat) (a:Option Addr) (J:List Int→World→Prop) (W:World) (hBs:W.cell? ⟨Bs,0,none⟩=some (.slice a 0 cap)) (h0:J [] W) :
   CallsIn F n Tryz.prog 97 #[.func (.yield l) #[] #[],.pointer (some ⟨Bs,0,none⟩)] W fun e W' => (∃ v,e=.returned v)∧J [] W':=by
 refine callsIn_of_wp Tryz.func97 rfl h8 ?_ hro
 simp only [Tryz.ntmps97,List.size_toArray,List.length_cons,List.length_nil,Nat.reduceAdd,Nat.reduceSub,Array.replicate_succ,Array.replicate_zero,List.push_toArray,List.append_toArray,List.nil_append,List.cons_append]
 gi_wp2
 gi_loopw [7] (fun i wr=>i=.int .i64 0∧J [] wr) (fun _ _=>0)
 case atStart=>exact ⟨rfl,h0⟩
 case round =>
   obtain ⟨rfl,hJs⟩:=hrel
   gi_wp2
   go_end0
   exact ⟨⟨_,rfl⟩,hJs⟩
theorem values_stops (F:Fence) (n:Nat) (h8:F.fn 97) (hro:F.round=none) (hn:1≤n) (Bs n₀:Nat) (a:Option Addr) (m cap:Nat) (zs:List Int) (hreach:zs.length≤140737488351232) (w:World) (hBs:Bs<n₀) (hn₀:n₀≤w.heap.size)
   (hc:w.cell? ⟨Bs,0,none⟩=some (.slice a m cap)) (hI:IsI w a m cap zs) (hab:∀ b off,a=some ⟨b,off,none⟩→zs≠[]→b<n₀) :
   SeqStopsK F n Tryz.prog 97 #[.pointer (some ⟨Bs,0,none⟩)] (fun x:Int => #[Value.int .i64 x]) (Below n₀) (fun ys=>ys=zs)
     (fun pre => ∃ k,k≤zs.length∧pre=zs.take k) zs.length w:=fun l J Jx W hW _ _ hY h0=>by
 have hc':=(hW.cell (p:=⟨Bs,0,none⟩) (Nat.lt_of_lt_of_le hBs hn₀)).trans hc
 obtain ⟨rfl,h1,h2,⟨rfl,_⟩ | ⟨b,off,rfl,hb,hcs⟩⟩:=hI
 · exact (values1_nil_in F n h8 hro l Bs cap a J W hc' h0).mono fun e W' ⟨he,hj⟩ => ⟨he,.inl ⟨_,rfl,hj⟩⟩
 · by_cases hz:zs=[]
   · subst hz
     exact (values1_nil_in F n h8 hro l Bs cap _ J W hc' h0).mono fun e W' ⟨he,hj⟩ => ⟨he,.inl ⟨_,rfl,hj⟩⟩
   · exact values1_in F n h8 hro hn l Bs n₀ b off cap zs hreach (hab b off rfl hz) hBs J Jx hY W hc' (fun i hi=>(hW.cell (p:=⟨b,off+i,none⟩) hb).trans (hcs i hi)) h0
theorem grownBy_setCell' (w:World) (p:Addr) (v:Value):w.grownBy (w.setCell p v) (some p.block):=⟨rfl,rfl,rfl,by simp,fun k _ hk=>Below.heap_setCell _ _ _ _ (fun e=>hk (by rw [e]))⟩
def ApI (w:World) (Bx:Nat) (pre:List Int) (W:World):Prop:=∃ v,W.heap[Bx]?=some (.cells #[v] 22 (0,0))∧W.ownsRow w.heap.size 3 1 v pre.length (icells pre)
theorem apI_from (w:World) (Bx B:Nat):OwnFrom B (ApI w Bx):=fun s W W' row hs hg hr=>by
 obtain ⟨v,hv,ho⟩:=hs
 refine ⟨v,(hg.block Bx (lt_of_heap hv) (fun e => ?_)).trans hv,ho.kept hg ?_⟩
 · obtain ⟨_,o,h1,h2⟩:=hr Bx e.symm
   rw [hv] at h1;cases h1;cases h2
 · cases hob:v.ownBlock with
   | none=>exact .inl rfl
   | some k =>
     refine .inr (fun e => ?_)
     obtain ⟨_,o,h1,h2⟩:=hr k e.symm
     obtain ⟨cur,hcur⟩:=owns_block ho hob
     rw [hcur] at h1;cases h1;cases h2
set_option maxRecDepth 100000 in
set_option maxHeartbeats 4000000 in
theorem aseq_in (F:Fence) (n:Nat) (h9:F.fn 108) (h8:F.fn 97) (hro:F.round=none) (hn:2≤n) (Bs:Nat) (a:Option Addr) (m cap:Nat) (zs:List Int) (hreach:zs.length≤17592186044416) (w:World) (hBs:Bs<w.heap.size) (hc:w.cell? ⟨Bs,0,none⟩=some (.slice a m cap)) (hI:IsI w a m cap zs) :
   CallsIn F n Tryz.prog 108 #[.slice none 0 0,.func (.func 97) #[] #[.pointer (some ⟨Bs,0,none⟩)]] w fun e W' => ∃ v,e=.returned v∧Below w.heap.size w W'∧W'.ownsRow w.heap.size 3 1 v zs.length (icells zs):=by
 have h1:1≤n:=by omega
 have hab:∀ b off,a=some ⟨b,off,none⟩→zs≠[]→b<w.heap.size:=fun b off ha hz=>by
   rcases hI.2.2.2 with ⟨h,_⟩ | ⟨b',off',h,hlt,_⟩
   · exact absurd h hz
   · rw [ha] at h;cases h;exact hlt
 obtain ⟨i0,hi0,hz0,hz1,hz2⟩:=info_parts infoInt
 have hB0:Below w.heap.size w (w.alloc (.cells #[.slice none 0 0] 22)):=(Below.refl _ w).alloc (Nat.le_refl _) _
 have hv0:=heap_new w (.cells #[.slice none 0 0] 22 (0,0))
 refine callsIn_of_wp_marks Tryz.func108 rfl h9 ?_ hro
 simp only [Tryz.ntmps108,List.size_toArray,List.length_cons,List.length_nil,Nat.reduceAdd,Nat.reduceSub,Array.replicate_succ,Array.replicate_zero,List.push_toArray,List.append_toArray,List.nil_append,List.cons_append]
 gi_wp2
 refine wpIn_rangeFunc_ownG hro h1 (gf:=97) (lb:=#[.pointer (some ⟨Bs,0,none⟩)]) rfl h8 (enters_of Tryz.func97 (by kernel_rfl) rfl)
   (values_stops F (n - 1) h8 hro (by omega) Bs w.heap.size a m cap zs (by omega) _ hBs (by simp) ((hB0.cell (p:=⟨Bs,0,none⟩) hBs).trans hc) (hI.below hB0) hab) Below.trans (fun W l o o' hl h h1 h2=>belowK_b (w:=w) (Nat.le_refl _) W l o o' (by simp at hl;omega) h h1 h2) (Below.refl _ _) (fun _=>rfl)
   (fun pre W=>ApI w w.heap.size pre W∧Below w.heap.size w W)
   (fun _ _ _=>False)
   (OwnFrom.and (apI_from w _ _) (ownFrom_below (Nat.le_refl _) (by simp)))
   (fun _ _ _ _ _ hs _ _=>hs)
   ⟨⟨_,hv0,World.ownsRow_nil _ _ _ _⟩,hB0⟩
   (fun x=>{ tmps:=#[.slice none 0 0,.func (.func 97) #[] #[.pointer (some ⟨Bs,0,none⟩)],.pointer (some ⟨w.heap.size,0,none⟩),undef,.slice none 0 0,.int .i64 x,.func (.func 97) #[] #[.pointer (some ⟨Bs,0,none⟩)],.int .i64 x,undef,undef,undef,undef,undef],defers:=[] }) ?assign ?body ?done ?stop
 case assign =>
   intro l x W K hK
   gi_wp2
   exact hK
 case body =>
   rintro l pre x W ⟨⟨v,hv,ho⟩,hB⟩ hpl
   obtain ⟨bo,c,rfl⟩:=owns_shape ho
   have hc1:W.cell? ⟨w.heap.size,0,none⟩=some (.slice bo pre.length c):=by rw [cell_of_block hv];rfl
   have hne:∀ k,(Value.slice bo pre.length c).ownBlock=some k→k≠w.heap.size:=fun k hk e=>by
     obtain ⟨cur,hcur⟩:=owns_block ho hk
     rw [e,hv] at hcur
     have:=(Obj.cells.inj (Option.some.inj hcur)).2.1
     exact absurd this (by decide)
   gi_wp2_with (gi_at_builtin
                refine wpListIn_append_own _ rfl _ _ 22 rfl w.heap.size 3 i0 (.int .i64 0) 1 8 Tryz.underlying22 hi0 hz0 hz1 hz2 rfl (by decide) _ pre.length (icells pre) rfl (ho.alloc _) ⟨W.heap.size,0,none⟩ 1 1 [.int .i64 x] rfl rfl (one_at W _ _) (one_cell _ rfl) (by unfold maxLen;omega) (by omega) (by simp;exact Nat.le_trans hB.size (Nat.le_succ _)) ?_
                intro v3 w3 ho3 hg3 _
                obtain ⟨b3,c3,rfl⟩:=owns_shape ho3
                have hv3:w3.heap[w.heap.size]?=some (.cells #[.slice bo pre.length c] 22 (0,0)):=(hg3.block _ (by simp;have:=lt_of_heap hv;omega) (fun e=>hne _ e.symm rfl)).trans ((Below.heap_alloc _ _ _ (lt_of_heap hv)).trans hv)
                have q1:w3.cell? ⟨w.heap.size,0,none⟩=some (.slice bo pre.length c):=by rw [cell_of_block hv3];rfl
                have q2:w3.frozen? ⟨w.heap.size,0,none⟩=false:=by simp [World.frozen?,hv3])
   have hg4:=grownBy_setCell' w3 ⟨w.heap.size,0,none⟩ (.slice b3 (pre.length+1) c3)
   have hB3:Below w.heap.size w w3:=(hB.alloc hB.size _).grown hg3 (by have:=hB.size;simp;omega) (fun j hj=>owns_base ho j hj)
   have hWB:Below w.heap.size W w3:=((Below.refl _ W).alloc hB.size _).grown hg3 (by have:=hB.size;simp;omega) (fun j hj=>owns_base ho j hj)
   have hko:KeepsOthers (W.alloc (.cells #[.int .i64 x] 3)) w3:=KeepsOthers.of_grownBy hg3 (fun j o hj hoo=>by
     obtain ⟨cur,hcur⟩:=owns_block (ho.alloc (.cells #[.int .i64 x] 3)) hj
     rw [hcur] at hoo;cases hoo;rfl)
   refine ⟨(((KeepsOthers.alloc _ _).trans hko).trans (KeepsOthers.setCell _ _ _)).from _,hWB.setCell (p:=⟨w.heap.size,0,none⟩) (Nat.le_refl _) _,⟨_,by rw [heap_setCell_same _ w.heap.size 0 _ _ _ hv3];rfl,?_⟩,hB3.setCell (p:=⟨w.heap.size,0,none⟩) (Nat.le_refl _) _⟩
   have h5:=ho3.kept hg4 (by
     cases hob:(Value.slice b3 (pre.length+1) c3).ownBlock with
     | none=>exact .inl rfl
     | some k =>
       refine .inr (fun e => ?_)
       obtain ⟨cur,hcur⟩:=owns_block ho3 hob
       rw [show k=w.heap.size from by simpa using e,hv3] at hcur
       exact absurd (Obj.cells.inj (Option.some.inj hcur)).2.1 (by decide))
   simpa [icells] using h5
 case done =>
   rintro D ys W hD rfl ⟨⟨v,hv,ho⟩,hB⟩ hK
   have hc1:W.cell? ⟨w.heap.size,0,none⟩=some v:=by rw [cell_of_block hv];rfl
   obtain ⟨bo,c,rfl⟩:=owns_shape ho
   gi_wp2
   refine ⟨by simp,.inl ⟨_,_,rfl,run_takeDeferred hK,?_⟩⟩
   have hD':w.heap.size≤D:=by simp at hD;omega
   exact ⟨_,results_tmp rfl _ _ _,_,rfl,hB.trans (belowK_b (w:=w) (Nat.le_refl _) _ D _ _ hD' hK rfl rfl),ho.kept (grownBy_putObj' W D _) (by
     cases hob:(Value.slice bo ys.length c).ownBlock with
     | none=>exact .inl rfl
     | some k =>
       refine .inr (fun e => ?_)
       obtain ⟨cur,hcur⟩:=owns_block ho hob
       rw [show k=D from by simpa using e,hK] at hcur
       cases hcur)⟩
 case stop =>
   rintro D c pre W _ _ h _
   exact h.elim
end
end Go.Proofs.YtmmmjohoihpbeaaGreat
