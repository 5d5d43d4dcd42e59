/- The library's bits.Mul at small numbers,slices.Repeat of one number;conditions: those typed. -/
import Derived.Test.YtmmmjohoihpbeaaGreatQOJwOJwQ
import Derived.Laws.CopyOwn
import Derived.Test.YtmmmjohoihpbeaaGreatQOJwY
import Derived.Deep.RegionHeld3
import Derived.Deep.DeepCutAuto
namespace Go.Proofs.YtmmmjohoihpbeaaGreat
open Go.RowKit
set_option linter.unusedVariables false
set_option linter.unusedSimpArgs false
set_option maxRecDepth 100000 in
set_option maxHeartbeats 4000000 in
theorem mul64_one (n:Nat) (hn:n≤8) (w:World) :
   Calls Tryz.prog 199 #[.int .u64 1,.int .u64 n] w fun e w' => e=.returned (.tuple #[.int .u64 0,.int .u64 n])∧w=w':=by
 match n,hn with
 | 0,_=>go_enter Tryz.func199,Tryz.ntmps199;go_wp2;go_ret2;exact ⟨rfl,rfl⟩
 | 1,_=>go_enter Tryz.func199,Tryz.ntmps199;go_wp2;go_ret2;exact ⟨rfl,rfl⟩
 | 2,_=>go_enter Tryz.func199,Tryz.ntmps199;go_wp2;go_ret2;exact ⟨rfl,rfl⟩
 | 3,_=>go_enter Tryz.func199,Tryz.ntmps199;go_wp2;go_ret2;exact ⟨rfl,rfl⟩
 | 4,_=>go_enter Tryz.func199,Tryz.ntmps199;go_wp2;go_ret2;exact ⟨rfl,rfl⟩
 | 5,_=>go_enter Tryz.func199,Tryz.ntmps199;go_wp2;go_ret2;exact ⟨rfl,rfl⟩
 | 6,_=>go_enter Tryz.func199,Tryz.ntmps199;go_wp2;go_ret2;exact ⟨rfl,rfl⟩
 | 7,_=>go_enter Tryz.func199,Tryz.ntmps199;go_wp2;go_ret2;exact ⟨rfl,rfl⟩
 | 8,_=>go_enter Tryz.func199,Tryz.ntmps199;go_wp2;go_ret2;exact ⟨rfl,rfl⟩
 | k+9,h=>omega
theorem mul_one' (n:Nat) (hn:n≤8) (w:World) :
   Calls Tryz.prog 191 #[.int .u64 1,.int .u64 n] w fun e w' => e=.returned (.tuple #[.int .u64 0,.int .u64 n])∧w=w':=by
 go_enter Tryz.func191,Tryz.ntmps191
 go_wp2_with fail
 refine (mul64_one n hn w).mono ?_;rintro e w1 ⟨rfl,rfl⟩
 go_wp2_with fail
 go_ret2
 exact ⟨rfl,rfl⟩
theorem madeI (n:Nat):madeCells (Value.int .i64 0).cells n=fnA n (fun _=>0):=by
 apply Array.ext
 · simp [size_madeCells,fnA_size]
 · intro i h1 h2
   have hi:i<n:=by simpa [size_madeCells] using h1
   have:=fnA_get (n:=n) (fun _=>0) hi
   rw [Array.getElem?_eq_getElem h2] at this
   rw [Option.some.inj this]
   simp [madeCells,Value.cells,Nat.mod_one]
theorem make_ints (n:Nat) (h:n≤100000) (w:World):(Instr.makeSlice 22 (.int .i64 (n:Int)) (.int .i64 (n:Int))).run Tryz.prog w=.ok (.slice (some ⟨w.heap.size,0,none⟩) n n) (w.alloc (.cells (fnA n (fun _=>0)) 3)):=by
 obtain ⟨i0,hi,hz0,hz1,hz2⟩:=info_parts infoInt
 have h:=run_make (P:=Tryz.prog) w 22 3 i0 _ Tryz.underlying22 hi hz0 .i64 .i64 (n:Int) (n:Int) (by omega) (by omega) (by rw [hz2];omega) (by omega)
 rw [hz1,Nat.mul_one,Int.toNat_natCast,madeI] at h
 exact h
def rpF (m:Nat) (v:Int) (i:Nat):Int:=if i<m then v else 0
theorem rpF_zero (v:Int):rpF 0 v=fun _=>0:=by funext i;simp [rpF]
theorem rp_splice (N m k:Nat) (v:Int) (h:m+k≤N):(splice (fnL N (rpF m v)) m (fnL k (fun _=>v))).toArray=fnA N (rpF (m+k) v):=by
 unfold splice fnA
 congr 1
 apply List.ext_getElem
 · simp [fnL_length];omega
 · intro i h1 h2
   have hi:i<N:=by simpa [fnL_length] using h2
   have e2:(fnL N (rpF (m+k) v))[i]=.int .i64 (rpF (m+k) v i):=by simp [fnL]
   rw [e2]
   by_cases c1:i<m
   · rw [List.getElem_append_left (by simp [fnL_length];omega)]
     simp [fnL,rpF,c1,show i<m+k by omega]
   · rw [List.getElem_append_right (by simp [fnL_length];omega)]
     by_cases c2:i<m+k
     · rw [List.getElem_append_left (by simp [fnL_length];omega)]
       simp [fnL,rpF,c2]
     · rw [List.getElem_append_right (by simp [fnL_length];omega)]
       simp only [List.getElem_drop]
       have h3:¬ (m+k+(i - (List.take m (fnL N (rpF m v))).length - k)<m):=by omega
       simp [fnL,rpF,c2,fnL_length]
       intro h4;omega
set_option maxRecDepth 100000 in
set_option maxHeartbeats 8000000 in
theorem repeat_any (v:Int) (xb:Nat) (N:Nat) (h1:1≤N) (h8:N≤8) (w:World) (hx:w.cell? ⟨xb,0,none⟩=some (.int .i64 v)) (hxb:xb<w.heap.size) :
   Calls Tryz.prog 181 #[.slice (some ⟨xb,0,none⟩) 1 1,.int .i64 N] w fun e w' => e=.returned (.slice (some ⟨w.heap.size,0,none⟩) N N)∧Below w.heap.size w w'∧w'.heap[w.heap.size]?=some (.cells (fnA N (rpF N v)) 3 (0,0)):=by
 have d1:decide ((N:Int)<0)=false:=decide_eq_false (by omega)
 have hmk:=make_ints N (by omega)
 have hszI:(Tryz.prog.info? 3).map (·.size)=some 1:=by kernel_rfl
 go_enter Tryz.func181,Tryz.ntmps181
 go_wp2_with fail
 refine (mul_one' N h8 w).mono ?_;rintro e w1 ⟨rfl,rfl⟩
 have e1:IntKind.i64.wrap (N:Int)=(N:Int):=IntWalk.i64_in _ (by omega)
 have e2:decide ((9223372036854775807:Int)<(N:Int))=false:=decide_eq_false (by omega)
 have hv:=heap_new w (.cells (fnA N (fun _=>0)) 3 (0,0))
 have hb1:Below w.heap.size w (w.alloc (.cells (fnA N (fun _=>0)) 3)):=(Below.refl _ _).alloc (Nat.le_refl _) _
 have cx:=cell_later hb1 hx
 have hat:∀ j u,(fnL 1 (fun _=>v))[j]?=some u→(w.alloc (.cells (fnA N (fun _=>0)) 3)).cell? ((⟨xb,0,none⟩:Addr).add j)=some u:=fun j u hu=>by
   have hj:j=0:=by have:=(List.getElem?_eq_some_iff.1 hu).1;rw [fnL_length] at this;omega
   subst hj
   have hu2:some (Value.int .i64 v)=some u:=hu
   rw [← hu2,addr_add,Nat.zero_add];exact cx
 have HAT:=Lib.hid hat
 have HV:Hid ((w.alloc (.cells (fnA N (fun _=>0)) 3)).heap[w.heap.size]?=some (.cells (fnL N (rpF 0 v)).toArray 3 (0,0))):=Lib.hid (by rw [rpF_zero];exact hv)
 have HB1:=Lib.hid hb1
 have hmin:(fnL 1 (fun _=>v)).length=Nat.min 1 N:=by rw [fnL_length];show 1=min 1 N;omega
 have HMIN:=Lib.hid hmin
 have HFIT:Hid (0+(fnL 1 (fun _=>v)).length≤(fnL N (rpF 0 v)).length):=Lib.hid (by rw [fnL_length,fnL_length];omega)
 clear hat hv hb1 cx hx hmin
 go_wp2_with (with_reducible refine wpList_copy_splice rfl (.tmp 31) (.tmp 32) 22 22 rfl 3 Tryz.underlying22 hszI (some ⟨w.heap.size,0,none⟩) (some ⟨xb,0,none⟩) N N 1 1 rfl rfl w.heap.size 0 (fnL N (rpF 0 v)) 3 HV.out (fnL 1 (fun _=>v)) HMIN.out (fun _=>⟨rfl,_,rfl,HAT.out⟩) HFIT.out (fnL_one _ _) w.heap.size w HB1.out (Nat.le_refl _) ?_)
 intro w2 hg2 hb2
 have HG2:Hid (w2.heap[w.heap.size]?=some (.cells (fnA N (rpF 1 v)) 3 (0,0))):=by rw [rp_splice N 0 1 v (by omega)] at hg2;exact hg2
 rw [fnL_length]
 have e9:((1:Nat):Int)=1:=rfl
 rw [e9]
 clear e9
 clear hg2 HV HAT HB1
 have HB2:=Lib.hid hb2
 clear hb2 HMIN HFIT
 go_wp2_with fail
 go_loopw [8] (fun i wr => ∃ m:Nat,1≤m∧m≤N∧i=.int .i64 (m:Int)∧Hid (wr.heap[w.heap.size]?=some (.cells (fnA N (rpF m v)) 3 (0,0))∧Below w.heap.size w wr)) (fun i _=>N - (intOf i).toNat)
 case atStart=>exact ⟨1,Nat.le_refl _,h1,rfl,Lib.hid ⟨HG2.out,HB2.out⟩⟩
 case round =>
   clear HG2 HB2
   obtain ⟨m,hm1,hmN,rfl,HS⟩:=hrel
   by_cases hlt:m<N
   · obtain ⟨q,hq⟩:∃ q,q=Nat.min m (N - m):=⟨_,rfl⟩
     have hqm:q≤m:=by rw [hq];exact Nat.min_le_left _ _
     have hqN:m+q≤N:=by have:=Nat.min_le_right m (N - m);rw [hq];show m+Nat.min m (N - m)≤N;have:Nat.min m (N - m)≤N - m:=this;omega
     have hq1:1≤q:=by rw [hq];exact Nat.le_min.2 ⟨hm1,by omega⟩
     have HMIN:Hid ((fnL q (fun _=>v)).length=Nat.min m (N - m)):=Lib.hid (by rw [fnL_length,hq])
     have HFIT:Hid (m+(fnL q (fun _=>v)).length≤(fnL N (rpF m v)).length):=Lib.hid (by rw [fnL_length,fnL_length];exact hqN)
     have HAT:Hid (∀ j u,(fnL q (fun _=>v))[j]?=some u→wr.cell? ((⟨w.heap.size,0,none⟩:Addr).add j)=some u):=Lib.hid (fun j u hu=>by
       have hj:j<q:=by have:=(List.getElem?_eq_some_iff.1 hu).1;rwa [fnL_length] at this
       rw [addr_add,Nat.zero_add,cell_of_block HS.out.1,fnA_get _ (by omega),← hu]
       simp [fnL,rpF,hj,show j<m by omega])
     have HQ:=Lib.hid hq
     have HL:Hid ((fnL q (fun _=>v)).length=q):=Lib.hid (fnL_length _ _)
     have HSP:Hid ((splice (fnL N (rpF m v)) m (fnL q (fun _=>v))).toArray=fnA N (rpF (m+q) v)):=Lib.hid (rp_splice N m q v hqN)
     have hmq8:m+q≤N:=hqN
     have e3:IntKind.i64.wrap ((m:Int)+(q:Int))=((m+q:Nat):Int):=by rw [IntWalk.i64_in _ (by omega)];omega
     have hnm:¬ N=m:=by omega
     have hmn:¬ m=N:=by omega
     clear hq
     go_wp2_with fail
     go_region_law (first
       | (refine step_copy_splice rfl (.tmp 41) (.tmp 44) 22 22 rfl 3 Tryz.underlying22 hszI (some ⟨w.heap.size,m,none⟩) (some ⟨w.heap.size,0,none⟩) (N - m) (N - m) m N (by simp [Act.eval,Act.put]) (by simp [Act.eval,Act.put]) w.heap.size m (fnL N (rpF m v)) 3 HS.out.1 (fnL q (fun _=>v)) HMIN.out (fun _=>⟨rfl,_,rfl,HAT.out⟩) HFIT.out (fnL_one _ _) w.heap.size w (by first | exact HS.out.2 | exact HS.out.2.drew) (Nat.le_refl _) ?_;intro w4 hg4 hb4;rw [HL.out])
       | fail)
     all_goals
       have HE:Hid (w4.heap[w.heap.size]?=some (.cells (fnA N (rpF (m+q) v)) 3 (0,0))∧Below w.heap.size w w4):=Lib.hid ⟨by have:=hg4.out;rwa [HSP.out] at this,hb4⟩
       clear hg4 hb4
       simp only [Act.put,List.getElem_toArray,List.getElem_cons_succ,List.getElem_cons_zero,List.setIfInBounds_toArray,List.set_cons_zero,List.set_cons_succ]
       go_wp2_with fail
       go_roundw
       case rel=>exact ⟨m+q,by omega,hmq8,rfl,HE⟩
       case measure=>simp [intOf];omega
   · obtain rfl:m=N:=by omega
     go_wp2_with fail
     go_ret
     exact ⟨rfl,HS.out.2,HS.out.1⟩
theorem isI_set_other {w:World} {a:Option Addr} {n c:Nat} {l:List Int} {k:Nat} {x:Option Addr} {y z:Nat} {t:TypeId} {fz:Nat × Nat} (h:IsI w a n c l) (hx:w.heap[k]?=some (.cells #[.slice x y z] t fz)) (v:Value):IsI (w.setCell ⟨k,0,none⟩ v) a n c l:=by
 obtain ⟨h1,h2,h3,h4 | ⟨b,off,rfl,hlt,hc⟩⟩:=h
 · exact ⟨h1,h2,h3,.inl h4⟩
 · refine ⟨h1,h2,h3,.inr ⟨b,off,rfl,by simpa using hlt,fun i hi => ?_⟩⟩
   have hne:b≠k:=fun e=>by
     have:=hc i hi
     rw [e,cell_of_block hx] at this
     cases hq:off+i with
     | zero=>rw [hq] at this;simp at this
     | succ m=>rw [hq] at this;simp at this
   rw [World.cell?_setCell_other _ _ _ _ (by simp [hne])]
   exact hc i hi
set_option maxRecDepth 100000 in
set_option maxHeartbeats 4000000 in
theorem most1_any (gb ib hx:Nat) (ga:Option Addr) (gn gc:Nat) (g:List (List Int)) (items i:Nat) (x:Option Addr) (y z:Nat) (h:List Int) (W:World)
   (h1:W.heap[gb]?=some (.cells #[.slice ga gn gc] 23 (0,0))) (h2:W.heap[ib]?=some (.cells #[.int .i64 items] 3 (0,0))) (h3:W.heap[hx]?=some (.cells #[.slice x y z] 22 (0,0)))
   (hI:IsII W ga gn gc g) (hg:GOk g items) (hh:IsI W x y z h) (hm:MtL g h) (hi:i<g.length) :
   Calls Tryz.prog 182 #[.int .i64 i,.pointer (some ⟨gb,0,none⟩),.pointer (some ⟨ib,0,none⟩),.pointer (some ⟨hx,0,none⟩)] W fun e W' => e=.returned (.tuple #[])∧Below hx W W'∧∃ x y z h,W'.heap[hx]?=some (.cells #[.slice x y z] 22 (0,0))∧IsI W' x y z h∧MtL g h:=by
 have hl:=lt_of_heap h3
 have f1:W.cell? ⟨gb,0,none⟩=some (.slice ga gn gc):=by rw [cell_of_block h1];rfl
 have f2:W.cell? ⟨ib,0,none⟩=some (.int .i64 items):=by rw [cell_of_block h2];rfl
 have f3:W.cell? ⟨hx,0,none⟩=some (.slice x y z):=by rw [cell_of_block h3];rfl
 have H3:=Lib.hid h3
 have HI:=Lib.hid hI
 have HG:=Lib.hid hg
 have HH:=Lib.hid hh
 have HM:=Lib.hid hm
 clear h1 h2 h3 hI hg hh hm
 go_enter Tryz.func182,Tryz.ntmps182
 go_wp2_with fail
 refine (more_any ga x gn gc y z g items h i W HI.out HG.out HH.out HM.out hi).mono ?_
 rintro e w1 ⟨hb1,⟨v,er,rfl⟩ | ⟨a',c',l,rfl,hl1,hm1⟩⟩
 · have HB1:=Lib.hid hb1
   clear hb1 f1 f2 f3
   by_cases he:er=0
   · subst he
     go_wp2_with fail
     go_end0
     exact ⟨rfl,HB1.out.mono (Nat.le_of_lt hl),x,y,z,h,below_heap HB1.out H3.out hl,HH.out.below HB1.out,HM.out⟩
   · have d1:(er == 0)=false:=by rw [beq_eq_false_iff_ne];exact he
     clear he
     go_wp2_with fail
     go_end0
     exact ⟨rfl,HB1.out.mono (Nat.le_of_lt hl),x,y,z,h,below_heap HB1.out H3.out hl,HH.out.below HB1.out,HM.out⟩
 · have hx1:=below_heap hb1 H3.out hl
   have g1:w1.cell? ⟨hx,0,none⟩=some (.slice x y z):=by rw [cell_of_block hx1];rfl
   have g2:w1.frozen? ⟨hx,0,none⟩=false:=blk_free hx1
   have HX1:=Lib.hid hx1
   have HB1:=Lib.hid hb1
   have HL1:=Lib.hid hl1
   have HM1:=Lib.hid hm1
   clear hb1 f1 f2 f3 hx1 hl1 hm1
   go_wp2_with fail
   go_end0
   refine ⟨rfl,(HB1.out.mono (Nat.le_of_lt hl)).setCell (p:=⟨hx,0,none⟩) (Nat.le_refl _) _,a',l.length,c',l,?_,?_,HM1.out⟩
   · rw [heap_setCell_same _ hx 0 _ _ _ HX1.out];rfl
   · exact isI_set_other HL1.out HX1.out _
theorem MtL.none {g:List (List Int)} {N:Nat} (h:N=g.length) (l:List Int) (hl:l.length=N) (hv:∀ i (hi:i<l.length),l[i] = -1):MtL g l :=
 ⟨by omega,fun i hi=>.inl (by rw [getD_get (by omega)];exact hv i (by omega)),fun i j hi hj e hne=>absurd (by rw [getD_get (by omega)];exact hv i (by omega)) hne⟩
theorem most_start {w w':World} {k N:Nat} {g:List (List Int)} (hN:N=g.length) (hm:N≤8) (h:w'.heap[k]?=some (.cells (fnA N (rpF N (-1))) 3 (0,0))):∃ l,IsI w' (some ⟨k,0,none⟩) N N l∧MtL g l:=by
 refine ⟨List.replicate N (-1),⟨by simp,by simp,by unfold maxLen;omega,.inr ⟨k,0,rfl,lt_of_heap h,fun i hi => ?_⟩⟩,MtL.none hN _ (by simp) (fun i hi=>by simp)⟩
 have hi':i<N:=by simpa using hi
 rw [Nat.zero_add,cell_of_block h,fnA_get _ hi']
 simp [rpF,hi']
set_option maxRecDepth 100000 in
set_option maxHeartbeats 8000000 in
theorem most_any (a:Option Addr) (n c:Nat) (g:List (List Int)) (items:Nat) (w:World) (h:IsII w a n c g) (hg:GOk g items) (h1:1≤g.length) :
   Calls Tryz.prog 153 #[.slice a n c,.int .i64 items] w fun e w' => Below w.heap.size w w'∧∃ a' c' l,e=.returned (.tuple #[.slice a' l.length c',.int .i64 0])∧IsI w' a' l.length c' l∧MtL g l:=by
 obtain rfl:=h.1
 have h8:=hg.hn
 have hmf:∀ (fn:Fn) (first cap:Array Value) (w:World),(Instr.makeFunc fn first cap).run Tryz.prog w=.ok (.func fn first cap) w:=fun _ _ _ _=>rfl
 obtain ⟨hb0,m0,m1⟩:=alloc2_facts w (.cells #[.slice a g.length c] 23 (0,0)) (.cells #[.int .i64 (items:Int)] 3 (0,0))
 have HI:=Lib.hid (h.below hb0)
 have HG:=Lib.hid hg
 clear h hg
 go_enter Tryz.func153,Tryz.ntmps153
 go_wp2_with fail
 generalize ((w.alloc (.cells #[.slice a g.length c] 23 (0,0))).alloc (.cells #[.int .i64 (items:Int)] 3 (0,0)))=W at hb0 m0 m1 HI ⊢
 have c0:W.cell? ⟨w.heap.size,0,none⟩=some (.slice a g.length c):=by rw [cell_of_block m0];rfl
 have c1:W.cell? ⟨w.heap.size+1,0,none⟩=some (.int .i64 (items:Int)):=by rw [cell_of_block m1];rfl
 have HB0:=Lib.hid hb0
 have HM0:=Lib.hid m0
 have HM1:=Lib.hid m1
 clear hb0 m0 m1
 go_wp2_with fail
 refine (gcheck_ok a g.length c g items W HI.out HG.out).mono ?_;rintro e w1 ⟨rfl,hb1⟩
 have HB1:=Lib.hid (HB0.out.trans (hb1.mono HB0.out.size))
 have HI1:=Lib.hid (HI.out.below hb1)
 have HN0:=Lib.hid (below_heap hb1 HM0.out (lt_of_heap HM0.out))
 have HN1:=Lib.hid (below_heap hb1 HM1.out (lt_of_heap HM1.out))
 have k0:=cell_later hb1 c0
 clear hb1 c0 c1 HM0 HM1 HB0 HI
 have k1:=cell_alloc k0 (.cells #[.int .i64 (-1)] 3 (0,0))
 go_wp2_with fail
 refine (repeat_any (-1) w1.heap.size g.length h1 h8 _ (by rw [cell_of_block (heap_new w1 _)];rfl) (by simp)).mono ?_;rintro e w2 ⟨rfl,hb2,hr2⟩
 have hbx:Below w1.heap.size w1 w2:=((Below.refl _ w1).alloc (Nat.le_refl _) (.cells #[.int .i64 (-1)] 3)).trans (hb2.mono (by simp))
 have hsx:(w1.alloc (.cells #[.int .i64 (-1)] 3)).heap.size=w1.heap.size+1:=World.size_alloc _ _
 obtain ⟨l0,hl0,hm0⟩:=most_start (w:=w1) rfl h8 hr2
 rw [hsx] at hl0 ⊢
 have hv3:=heap_new w2 (.cells #[.slice (some ⟨w1.heap.size+1,0,none⟩) g.length g.length] 22 (0,0))
 have hb3:Below w2.heap.size w2 (w2.alloc (.cells #[.slice (some ⟨w1.heap.size+1,0,none⟩) g.length g.length] 22)):=(Below.refl _ _).alloc (Nat.le_refl _) _
 have HB2:=Lib.hid (HB1.out.trans (hbx.mono HB1.out.size))
 have HI2:=Lib.hid (HI1.out.below hbx)
 have HP0:=Lib.hid (below_heap hbx HN0.out (lt_of_heap HN0.out))
 have HP1:=Lib.hid (below_heap hbx HN1.out (lt_of_heap HN1.out))
 have HL0:=Lib.hid (hl0.below hb3)
 have HM0:=Lib.hid hm0
 have HV3:=Lib.hid hv3
 have HB3:=Lib.hid hb3
 have j0:=cell_later hbx k0
 have j1:=cell_later hb3 j0
 clear hb2 hr2 hbx hsx hl0 hm0 hv3 hb3 k0 k1 HB1 HI1 HN0 HN1
 go_wp2_with fail
 generalize w2.alloc (.cells #[.slice (some ⟨w1.heap.size+1,0,none⟩) g.length g.length] 22)=W3 at HV3 HB3 HL0 j1 ⊢
 clear j0
 go_wp2_with fail
 have HSZ:Hid (w.heap.size≤w2.heap.size):=Lib.hid HB2.out.size
 go_loopw [20] (fun i wr => ∃ j:Nat,j≤g.length∧i=.int .i64 (j:Int)∧Hid (Below w2.heap.size w2 wr∧∃ x y z h,wr.heap[w2.heap.size]?=some (.cells #[.slice x y z] 22 (0,0))∧IsI wr x y z h∧MtL g h)) (fun i _=>g.length - (intOf i).toNat)
 case atStart=>exact ⟨0,Nat.zero_le _,rfl,Lib.hid ⟨HB3.out,_,_,_,l0,HV3.out,HL0.out,HM0.out⟩⟩
 case round =>
   clear HV3 HB3 HL0 HM0 j1
   obtain ⟨j,hj,rfl,HS⟩:=hrel
   obtain ⟨hb4,x,y,z,h,hx,hh,hm⟩:=HS.out
   clear HS
   by_cases hlt:j<g.length
   · have hcall:=fun W=>(enters_of Tryz.func182 (by kernel_rfl) rfl) (#[.int .i64 (j:Int)] ++ #[.pointer (some ⟨w.heap.size,0,none⟩),.pointer (some ⟨w.heap.size+1,0,none⟩),.pointer (some ⟨w2.heap.size,0,none⟩)]) W
     have HG0:=Lib.hid (below_heap hb4 HP0.out (lt_of_heap HP0.out))
     have HG1:=Lib.hid (below_heap hb4 HP1.out (lt_of_heap HP1.out))
     have HX:=Lib.hid hx
     have HH:=Lib.hid hh
     have HM:=Lib.hid hm
     have HB4:=Lib.hid hb4
     clear hb4 hx hh hm
     go_wp2_with fail
     refine (most1_any w.heap.size (w.heap.size+1) w2.heap.size a g.length c g items j x y z h wr HG0.out HG1.out HX.out (HI2.out.below HB4.out) HG.out HH.out HM.out hlt).mono ?_
     rintro e w5 ⟨rfl,hb5,x5,y5,z5,h5,hx5,hi5,hm5⟩
     have HS:Hid (Below w2.heap.size w2 w5∧∃ x y z h,w5.heap[w2.heap.size]?=some (.cells #[.slice x y z] 22 (0,0))∧IsI w5 x y z h∧MtL g h):=Lib.hid ⟨HB4.out.trans hb5,x5,y5,z5,h5,hx5,hi5,hm5⟩
     clear hb5 hx5 hi5 hm5 hcall
     go_wp2_with fail
     go_roundw
     case rel=>exact ⟨j+1,by omega,by go_num,HS⟩
     case measure=>simp [intOf];omega
   · have hjj:j=g.length:=by omega
     subst hjj
     have c4:wr.cell? ⟨w2.heap.size,0,none⟩=some (.slice x y z):=by rw [cell_of_block hx];rfl
     obtain rfl:=hh.1
     have q1:=hh.2.1
     have q2:=hh.2.2.1
     have q3:x=none→z=0:=fun e=>by
       rcases hh.2.2.2 with ⟨h0,h1⟩ | ⟨_,_,h1,_⟩
       · exact h1 e
       · rw [e] at h1;cases h1
     have HB4:=Lib.hid (HB2.out.trans (hb4.mono HB2.out.size))
     have HH:=Lib.hid hh
     have HM:=Lib.hid hm
     clear hb4 hx hh hm
     go_wp2_with fail
     refine (iclip_any x h.length z wr q1 q2 q3).mono ?_;rintro e w5 ⟨rfl,rfl⟩
     go_wp2_with fail
     go_ret2
     exact ⟨HB4.out,x,h.length,h,rfl,HH.out.clip,HM.out⟩
theorem infoL:(Tryz.prog.info? 22).map (fun i=>(i.zero,i.size,i.bytes))=some (some (.slice none 0 0),1,24):=by kernel_rfl
theorem madeL (n:Nat):madeCells (Value.slice none 0 0).cells n=Array.replicate n (.slice none 0 0):=by
 apply Array.ext
 · simp [size_madeCells]
 · intro i h1 h2
   simp [madeCells,Value.cells,Nat.mod_one]
theorem make_lists (n:Nat) (h:n≤100000) (w:World):(Instr.makeSlice 23 (.int .i64 (n:Int)) (.int .i64 (n:Int))).run Tryz.prog w=.ok (.slice (some ⟨w.heap.size,0,none⟩) n n) (w.alloc (.cells (Array.replicate n (.slice none 0 0)) 22)):=by
 obtain ⟨i0,hi,hz0,hz1,hz2⟩:=info_parts infoL
 have h:=run_make (P:=Tryz.prog) w 23 22 i0 _ Tryz.underlying23 hi hz0 .i64 .i64 (n:Int) (n:Int) (by omega) (by omega) (by rw [hz2];omega) (by omega)
 rw [hz1,Nat.mul_one,Int.toNat_natCast,madeL] at h
 exact h
def HdB (w:World) (b:Nat) (L:List (List Int)):Prop:=∃ C:Array Value,w.heap[b]?=some (.cells C 22 (0,0))∧C.size=L.length∧∀ i (h:i<L.length),∃ x y z,C[i]?=some (.slice x y z)∧IsI w x y z L[i]
theorem HdB.lt {w:World} {b:Nat} {L:List (List Int)} (h:HdB w b L):b<w.heap.size:=by obtain ⟨C,h1,_⟩:=h;exact lt_of_heap h1
theorem HdB.below {w w':World} {b:Nat} {L:List (List Int)} (h:HdB w b L) (hb:Below w.heap.size w w'):HdB w' b L:=by
 obtain ⟨C,h1,h2,h3⟩:=h
 refine ⟨C,below_heap hb h1 (lt_of_heap h1),h2,fun i hi => ?_⟩
 obtain ⟨x,y,z,h4,h5⟩:=h3 i hi
 exact ⟨x,y,z,h4,h5.below hb⟩
theorem HdB.nils {w:World} {b n:Nat} (h:w.heap[b]?=some (.cells (Array.replicate n (.slice none 0 0)) 22 (0,0))):HdB w b (List.replicate n []):=by
 refine ⟨_,h,by simp,fun i hi=>⟨none,0,0,?_,?_⟩⟩
 · have:i<n:=by simpa using hi
   simp [this]
 · rw [List.getElem_replicate];exact IsI.nil _
theorem HdB.cell {w:World} {b:Nat} {L:List (List Int)} (h:HdB w b L) (i:Nat) (hi:i<L.length):∃ x y z,w.cell? ⟨b,i,none⟩=some (.slice x y z)∧w.frozen? ⟨b,i,none⟩=false∧IsI w x y z L[i]:=by
 obtain ⟨C,h1,h2,h3⟩:=h
 obtain ⟨x,y,z,h4,h5⟩:=h3 i hi
 exact ⟨x,y,z,by rw [cell_of_block h1];exact h4,blk_free h1,h5⟩
theorem HdB.keep {w:World} {b:Nat} {L:List (List Int)} (h:HdB w b L) {a:Option Addr} {n c:Nat} {l:List Int} (hl:IsI w a n c l) (i:Nat) (v:Value):IsI (w.setCell ⟨b,i,none⟩ v) a n c l:=by
 obtain ⟨C,h1,h2,h3⟩:=h
 obtain ⟨k1,k2,k3,k4 | ⟨k,off,rfl,hlt,hc⟩⟩:=hl
 · exact ⟨k1,k2,k3,.inl k4⟩
 · refine ⟨k1,k2,k3,.inr ⟨k,off,rfl,by simpa using hlt,fun j hj => ?_⟩⟩
   have hne:k≠b:=fun e=>by
     have:=hc j hj
     rw [e,cell_of_block h1] at this
     have hjc:=(Array.getElem?_eq_some_iff.1 this).1
     obtain ⟨x,y,z,h4,_⟩:=h3 (off+j) (by omega)
     rw [this] at h4;cases h4
   rw [World.cell?_setCell_other _ _ _ _ (by simp [hne])]
   exact hc j hj
theorem HdB.set {w:World} {b:Nat} {L:List (List Int)} (h:HdB w b L) {i:Nat} (hi:i<L.length) {x:Option Addr} {y z:Nat} {l:List Int} (hl:IsI w x y z l):HdB (w.setCell ⟨b,i,none⟩ (.slice x y z)) b (L.set i l):=by
 have hk:=h
 obtain ⟨C,h1,h2,h3⟩:=h
 refine ⟨_,heap_setCell_same _ b i _ _ _ h1,by simp [h2],fun j hj => ?_⟩
 have hj':j<L.length:=by simpa using hj
 by_cases e:i=j
 · subst e
   exact ⟨x,y,z,by simp [h2,hi],by rw [List.getElem_set_self];exact hk.keep hl _ _⟩
 · obtain ⟨x',y',z',h4,h5⟩:=h3 j hj'
   exact ⟨x',y',z',by rw [Array.getElem?_setIfInBounds,if_neg e];exact h4,by rw [List.getElem_set_ne e];exact hk.keep h5 _ _⟩
theorem HdB.isII {w:World} {b:Nat} {L:List (List Int)} (h:HdB w b L) (c:Nat) (hc:L.length≤c) (hm:c≤maxLen):IsII w (some ⟨b,0,none⟩) L.length c L:=by
 refine ⟨rfl,hc,hm,.inr ⟨b,0,rfl,h.lt,fun i hi => ?_⟩⟩
 obtain ⟨x,y,z,h1,_,h2⟩:=h.cell i hi
 exact ⟨x,y,z,by rw [Nat.zero_add];exact h1,h2⟩
def aloneL (g:List (List Int)) (some:List Int):List (List Int):=(List.range g.length).map fun i:Nat=>if (i:Int) ∈ some then g.getD i [] else []
theorem aloneL_length (g:List (List Int)) (some:List Int):(aloneL g some).length=g.length:=by simp [aloneL]
theorem aloneL_getD (g:List (List Int)) (some:List Int) (i:Nat):(aloneL g some).getD i []=if i<g.length∧(i:Int) ∈ some then g.getD i [] else []:=by
 by_cases hi:i<g.length
 · rw [getD_get (by rw [aloneL_length];exact hi)]
   simp [aloneL,hi]
 · simp [List.getD,List.getElem?_eq_none (show (aloneL g some).length≤i by rw [aloneL_length];omega),hi]
theorem aloneL_nil (g:List (List Int)):aloneL g []=List.replicate g.length []:=by
 apply List.ext_getElem
 · simp [aloneL]
 · intro i h1 h2;simp [aloneL]
theorem aloneL_snoc (g:List (List Int)) (l:List Int) (p:Nat) (hp:p<g.length):aloneL g (l ++ [(p:Int)])=(aloneL g l).set p (g.getD p []):=by
 apply List.ext_getElem
 · simp [aloneL]
 · intro i h1 h2
   rw [List.getElem_set]
   by_cases e:p=i
   · subst e;simp [aloneL]
   · have:¬ ((i:Int)=(p:Int)):=by omega
     simp [aloneL,e,this]
theorem aloneL_ok {g:List (List Int)} {items:Nat} (h:GOk g items) (some:List Int):GOk (aloneL g some) items:=by
 refine ⟨h.hi,by rw [aloneL_length];exact h.hn,fun l hl => ?_⟩
 obtain ⟨i,hi,rfl⟩:=List.mem_map.1 hl
 split
 · exact h.at i
 · exact RisL.nil _
set_option maxRecDepth 100000 in
set_option maxHeartbeats 8000000 in
theorem mall_any (a sa:Option Addr) (n c sn sc:Nat) (g:List (List Int)) (items:Nat) (sm:List Int) (w:World) (h:IsII w a n c g) (hg:GOk g items) (hs:IsI w sa sn sc sm) (hr:RisL sm g.length) (h1:1≤g.length) :
   Calls Tryz.prog 113 #[.slice a n c,.int .i64 items,.slice sa sn sc] w fun e w' => Below w.heap.size w w'∧∃ has,e=.returned (.tuple #[.bool (decide (manyL has=sm.length)),.int .i64 0])∧MtL (aloneL g sm) has:=by
 obtain rfl:=h.1
 obtain rfl:=hs.1
 have h8:=hg.hn
 have hmk:=make_lists g.length (by omega)
 have HI:=Lib.hid h
 have HG:=Lib.hid hg
 have HS:=Lib.hid hs
 have HR:=Lib.hid hr
 have hsl:=hs.len
 clear h hg hs hr
 go_enter Tryz.func113,Tryz.ntmps113
 go_wp2_with fail
 refine (near_any a sa g.length c sm.length sc g items sm w HI.out HG.out HS.out HR.out).mono ?_;rintro e w1 ⟨a1,c1,l1,rfl,hb1,hj1⟩;clear hj1
 have HB1:=Lib.hid hb1
 have HI1:=Lib.hid (HI.out.below hb1)
 have HS1:=Lib.hid (HS.out.below hb1)
 clear hb1
 have hv:=heap_new w1 (.cells (Array.replicate g.length (.slice none 0 0)) 22 (0,0))
 have hb2:Below w1.heap.size w1 (w1.alloc (.cells (Array.replicate g.length (.slice none 0 0)) 22)):=(Below.refl _ _).alloc (Nat.le_refl _) _
 have HD:Hid (HdB (w1.alloc (.cells (Array.replicate g.length (.slice none 0 0)) 22)) w1.heap.size (aloneL g (sm.take 0))):=Lib.hid (by rw [List.take_zero,aloneL_nil];exact HdB.nils hv)
 have HB2:=Lib.hid hb2
 clear hv hb2
 go_wp2_with fail
 generalize w1.alloc (.cells (Array.replicate g.length (.slice none 0 0)) 22)=W at HD HB2 ⊢
 go_loopw [30] (fun i wr => ∃ j:Nat,j≤sm.length∧i=.int .i64 (j:Int)∧Hid (HdB wr w1.heap.size (aloneL g (sm.take j))∧Below w1.heap.size w1 wr)) (fun i _=>sm.length - (intOf i).toNat)
 case atStart=>exact ⟨0,Nat.zero_le _,rfl,Lib.hid ⟨HD.out,HB2.out⟩⟩
 case round =>
   clear HD HB2
   obtain ⟨j,hj,rfl,HQ⟩:=hrel
   by_cases hlt:j<sm.length
   · obtain ⟨b,off,rfl,hblt,ck0⟩:=HS1.out.at j hlt
     have ck:wr.cell? ⟨b,off+j,none⟩=some (.int .i64 sm[j]):=(HQ.out.2.cell (p:=⟨b,off+j,none⟩) hblt).trans ck0
     have hzr:=HR.out.at j hlt
     obtain ⟨p,hp⟩:=Int.eq_ofNat_of_zero_le hzr.1
     have hpg:p<g.length:=by omega
     have HT:Hid (sm.take (j+1)=sm.take j ++ [(p:Int)]):=Lib.hid (by rw [List.take_succ_eq_append_getElem hlt,hp])
     rw [hp] at ck
     obtain ⟨b2,off2,x,y,z,rfl,hb2,hc2,hI2⟩:=HI1.out.at p hpg
     have cg:wr.cell? ⟨b2,off2+p,none⟩=some (.slice x y z):=(HQ.out.2.cell (p:=⟨b2,off2+p,none⟩) hb2).trans hc2
     have hpa:p<(aloneL g (sm.take j)).length:=by rw [aloneL_length];exact hpg
     obtain ⟨x0,y0,z0,q1,q2,q3⟩:=HQ.out.1.cell p hpa
     clear q3
     have HQ2:Hid (HdB (wr.setCell ⟨w1.heap.size,p,none⟩ (.slice x y z)) w1.heap.size (aloneL g (sm.take (j+1)))∧Below w1.heap.size w1 (wr.setCell ⟨w1.heap.size,p,none⟩ (.slice x y z))):=Lib.hid ⟨by
       rw [HT.out,aloneL_snoc g _ p hpg]
       refine HQ.out.1.set hpa ?_
       rw [getD_get hpg];exact hI2.below HQ.out.2,HQ.out.2.setCell (p:=⟨w1.heap.size,p,none⟩) (Nat.le_refl _) _⟩
     clear ck0 hzr hp hc2 hI2 HT
     go_wp2_with fail
     go_roundw
     case rel=>exact ⟨j+1,by omega,by go_num,HQ2⟩
     case measure=>simp [intOf];omega
   · have hjj:j=sm.length:=by omega
     subst hjj
     have hD:=HQ.out.1
     rw [List.take_length] at hD
     have HA:Hid (IsII wr (some ⟨w1.heap.size,0,none⟩) g.length g.length (aloneL g sm)):=Lib.hid (by
       have:=hD.isII g.length (by rw [aloneL_length];exact Nat.le_refl _) (by unfold maxLen;omega)
       rwa [aloneL_length] at this)
     have HB:=Lib.hid (HB1.out.trans (HQ.out.2.mono HB1.out.size))
     clear hD HQ
     go_wp2_with fail
     refine (most_any (some ⟨w1.heap.size,0,none⟩) g.length g.length (aloneL g sm) items wr HA.out (aloneL_ok HG.out sm) (by rw [aloneL_length];exact h1)).mono ?_
     rintro e w5 ⟨hb5,a5,c5,has,rfl,hi5,hm5⟩
     have HB5:=Lib.hid (HB.out.trans (hb5.mono HB.out.size))
     have HI5:=Lib.hid hi5
     have HM5:=Lib.hid hm5
     clear hb5 hi5 hm5
     go_wp2_with fail
     refine (gmany_any a5 has.length c5 has w5 HI5.out).mono ?_;rintro e w6 ⟨rfl,rfl⟩
     have hmn:manyL has≤8:=Nat.le_trans (manyL_le has) (by have:=HM5.out.len;rw [aloneL_length] at this;omega)
     have HE:Hid (((manyL has:Int) == (sm.length:Int))=decide (manyL has=sm.length)):=Lib.hid (by
       by_cases e:manyL has=sm.length
       · simp [e]
       · have:¬ ((manyL has:Int)=(sm.length:Int)):=by omega
         simp [e,this])
     go_wp2_with fail
     go_ret2
     exact ⟨HB5.out,has,by rw [← HE.out];rfl,HM5.out⟩
section
open Go.RowKit Go.Shelf
attribute [local go_sem] Oper.semAt_some
def setsL:Nat→List Int→Nat→Nat→List (List Int)
 | 0,ah,_,_=>[ah]
 | m+1,ah,f,it=>(List.range' f (it - m - f)).flatMap fun k:Nat=>setsL m (ah ++ [(k:Int)]) (k+1) it
def setsU (m:Nat) (ah:List Int) (f it k:Nat):List (List Int):=(List.range' f (k - f)).flatMap fun k:Nat=>setsL m (ah ++ [(k:Int)]) (k+1) it
theorem setsU_start (m:Nat) (ah:List Int) (f it:Nat):setsU m ah f it f=[]:=by simp [setsU]
theorem setsU_succ (m:Nat) (ah:List Int) (f it k:Nat) (h:f≤k):setsU m ah f it (k+1)=setsU m ah f it k ++ setsL m (ah ++ [(k:Int)]) (k+1) it:=by
 unfold setsU
 rw [show k+1 - f=(k - f)+1 by omega,List.range'_concat,List.flatMap_append]
 simp [show f+(k - f)=k by omega]
theorem setsL_end (m:Nat) (ah:List Int) (f it k:Nat) (h:f≤k) (h1:it - m≤k) (h2:k≤it - m∨k=f):setsU m ah f it k=setsL (m+1) ah f it:=by
 unfold setsU
 show _=(List.range' f (it - m - f)).flatMap _
 rw [show k - f=it - m - f by omega]
structure SlX where
 a:Option Addr
 n:Nat
 c:Nat
 l:List Int
def SlX.enc (x:SlX):Array Value:=#[.slice x.a x.n x.c]
def SlX.is (x:SlX) (W:World):Prop:=IsI W x.a x.n x.c x.l
def SlX.ok (M:List Int→Prop) (x:SlX) (W:World):Prop:=x.is W∧M x.l
theorem SlX.put (M:List Int→Prop) (x:SlX) (W:World) (l:Nat) (o o':Obj) (h:x.ok M W) (h1:W.heap[l]?=some o) (h2:o.isCells=false):x.ok M (W.putObj l o'):=⟨isI_put h.1 h1 h2,h.2⟩
theorem setsL_mem {m:Nat} {ah:List Int} {f it k:Nat} {l:List Int} (h1:f≤k) (h2:k+(m+1)≤it) (h:l ∈ setsL m (ah ++ [(k:Int)]) (k+1) it):l ∈ setsL (m+1) ah f it:=by
 show l ∈ (List.range' f (it - m - f)).flatMap _
 rw [List.mem_flatMap]
 exact ⟨k,by rw [List.mem_range'_1];omega,h⟩
structure SetB (w:World) (tb ab fb ib:Nat) (ah:List Int) (f it m:Nat):Prop where
 t:w.heap[tb]?=some (.cells #[.int .i64 (m:Int)] 3 (0,0))
 a:∃ x n c,w.heap[ab]?=some (.cells #[.slice x n c] 22 (0,0))∧IsI w x n c ah
 f:w.heap[fb]?=some (.cells #[.int .i64 (f:Int)] 3 (0,0))
 i:w.heap[ib]?=some (.cells #[.int .i64 (it:Int)] 3 (0,0))
theorem SetB.below {w w':World} {tb ab fb ib:Nat} {ah:List Int} {f it m:Nat} (h:SetB w tb ab fb ib ah f it m) (hb:Below w.heap.size w w'):SetB w' tb ab fb ib ah f it m:=by
 obtain ⟨h1,⟨x,n,c,h2,h3⟩,h4,h5⟩:=h
 exact ⟨below_heap hb h1 (lt_of_heap h1),⟨x,n,c,below_heap hb h2 (lt_of_heap h2),h3.below hb⟩,below_heap hb h4 (lt_of_heap h4),below_heap hb h5 (lt_of_heap h5)⟩
theorem alloc4J (w:World) (o1 o2 o3 o4:Obj):Below w.heap.size w ((((w.alloc o1).alloc o2).alloc o3).alloc o4)∧((((w.alloc o1).alloc o2).alloc o3).alloc o4).heap[w.heap.size]?=some o1∧((((w.alloc o1).alloc o2).alloc o3).alloc o4).heap[w.heap.size+1]?=some o2∧((((w.alloc o1).alloc o2).alloc o3).alloc o4).heap[w.heap.size+1+1]?=some o3∧((((w.alloc o1).alloc o2).alloc o3).alloc o4).heap[w.heap.size+1+1+1]?=some o4:=by
 obtain ⟨h0,h1,h2⟩:=alloc2_facts w o1 o2
 obtain ⟨g0,g1,g2⟩:=alloc2_facts ((w.alloc o1).alloc o2) o3 o4
 rw [World.size_alloc,World.size_alloc] at g1 g2
 exact ⟨h0.trans (g0.mono h0.size),below_heap g0 h1 (lt_of_heap h1),below_heap g0 h2 (lt_of_heap h2),g1,g2⟩
set_option maxHeartbeats 1000000 in
theorem sets_any (x:Option Addr) (n c:Nat) (ah:List Int) (f it m:Nat) (w:World) (h:IsI w x n c ah) :
   Calls Tryz.prog 118 #[.slice x n c,.int .i64 f,.int .i64 it,.int .i64 m] w fun e w' => ∃ tb ab fb ib,e=.returned (.func (.func 159) #[] #[.pointer (some ⟨tb,0,none⟩),.pointer (some ⟨ab,0,none⟩),.pointer (some ⟨fb,0,none⟩),.pointer (some ⟨ib,0,none⟩)])∧Below w.heap.size w w'∧SetB w' tb ab fb ib ah f it m:=by
 obtain ⟨q0,q1,q2,q3,q4⟩:=alloc4J w (.cells #[.slice x n c] 22 (0,0)) (.cells #[.int .i64 (f:Int)] 3 (0,0)) (.cells #[.int .i64 (it:Int)] 3 (0,0)) (.cells #[.int .i64 (m:Int)] 3 (0,0))
 go_enter Tryz.func118,Tryz.ntmps118
 go_wp2
 go_ret
 exact ⟨w.heap.size+1+1+1,w.heap.size,w.heap.size+1,w.heap.size+1+1,rfl,q0,q4,⟨x,n,c,q1,h.below q0⟩,q2,q3⟩
set_option maxRecDepth 100000 in
set_option maxHeartbeats 4000000 in
theorem sets1_zero (M:List Int→Prop) (it:Nat) (ah:List Int) (f:Nat) (w:World) (tb ab fb ib:Nat) (h:SetB w tb ab fb ib ah f it 0) (hM:∀ l ∈ setsL 0 ah f it,M l) :
   SeqR Tryz.prog 159 #[.pointer (some ⟨tb,0,none⟩),.pointer (some ⟨ab,0,none⟩),.pointer (some ⟨fb,0,none⟩),.pointer (some ⟨ib,0,none⟩)] SlX.enc (SlX.ok M) (fun xs=>xs.map SlX.l=setsL 0 ah f it) w:=by
 intro l J Jx W hW hl hJ hJx hY h0
 obtain ⟨ht,⟨x,n,c,ha,hI⟩,hf,hi⟩:=h.below (hW.mono (Nat.le_refl _))
 have hB1:Below W.heap.size W (W.alloc (.cells #[.func (.yield l) #[] #[]] 66 (0,0))):=(Below.refl _ _).alloc (Nat.le_refl _) _
 have hv:=heap_new W (.cells #[.func (.yield l) #[] #[]] 66 (0,0))
 have hJ1:J [] (W.alloc (.cells #[.func (.yield l) #[] #[]] 66 (0,0))):=hJ.alloc _ h0
 have hI1:=hI.below hB1
 have c0:=cell_later hB1 (show W.cell? ⟨tb,0,none⟩=some (.int .i64 0) by rw [cell_of_block ht];rfl)
 have c1:=cell_later hB1 (show W.cell? ⟨ab,0,none⟩=some (.slice x n c) by rw [cell_of_block ha];rfl)
 have c2:(W.alloc (.cells #[.func (.yield l) #[] #[]] 66 (0,0))).cell? ⟨W.heap.size,0,none⟩=some (.func (.yield l) #[] #[]):=by rw [cell_of_block hv];rfl
 obtain ⟨fn,tmps,assign,body,hy,hR⟩:=hY [] ⟨x,n,c,ah⟩ _ hB1.size hJ1 ⟨hI1,hM _ (by simp [setsL])⟩
 dsimp only [SlX.enc] at hy
 have HR:=Lib.hid hR
 clear hY hR hv hI1 hI ht ha hf hi
 refine callsIn_of_wp_marks Tryz.func159 rfl trivial ?_ rfl
 simp only [Tryz.ntmps159,List.size_toArray,List.length_cons,List.length_nil,Nat.reduceAdd,Nat.reduceSub,Array.replicate_succ,Array.replicate_zero,List.push_toArray,List.append_toArray,List.nil_append,List.cons_append]
 gi_wp2_with fail
 refine ⟨rfl,?_⟩
 refine HR.out.mono ?_
 rintro e W3 (⟨rfl,hJ3,_⟩ | ⟨rfl,hJx3,_⟩)
 · gi_wp2_with fail
   exact ⟨_,results_none rfl _ _ _,⟨_,rfl⟩,.inl ⟨_,rfl,hJ3⟩⟩
 · gi_wp2_with fail
   exact ⟨_,results_none rfl _ _ _,⟨_,rfl⟩,.inr ⟨_,hJx3⟩⟩
def SetQ (J:List SlX→World→Prop) (W5:World) (B m:Nat) (ah:List Int) (f it k:Nat) (ds:List Nat) (wr:World):Prop :=
 (∃ pre:List SlX,pre.map SlX.l=setsU m ah f it k∧J pre wr)∧Below W5.heap.size W5 wr∧MkD B ds wr
theorem own_below {β:Type} {B:Nat} {J:β→World→Prop} (h:OwnFrom B J) {s:β} {A A':World} (hs:J s A) (hb:Below A.heap.size A A'):J s A' :=
 h s A A' none hs ⟨hb.os,hb.tape,hb.output,hb.size,fun k hk _=>hb.block k hk⟩ (fun r e=>by cases e)
theorem RoundIn.inR {F:Fence} {n:Nat} {P:Program} {l:Nat} {f:FuncId} {tmps:Array Value} {assign body:Code} {w:World} {R:Ending→World→Prop} (k:Nat) (h:RoundIn F n P l f tmps assign body w R):RoundIn (F.inRound k) n P l f tmps assign body w R:=h
theorem own_stop {X:Type} {B C:Nat} {Jx:List X→World→Prop} {ds:List Nat} (c:Code) (h:OwnFrom C Jx) (hlt:∀ D ∈ ds,D<C):OwnFrom C (fun (q:List X) W' => c=Code.ret∧(∃ p,Jx p W')∧MkD B ds W'):=fun s A A' row hs hg hr =>
 ⟨hs.1,by obtain ⟨p,hp⟩:=hs.2.1;exact ⟨p,h p A A' row hp hg hr⟩,own_marks (β:=Unit) B C ds hlt () A A' row hs.2.2 hg hr⟩
set_option maxRecDepth 100000 in
set_option maxHeartbeats 8000000 in
theorem sets1_succ (M : List Int → Prop) (it m : Nat) (hit : it ≤ 8) (hm : m ≤ 8) (ih : ∀ (ah : List Int) (f : Nat) (w : World) (tb ab fb ib : Nat), ah.length ≤ 20 - m → f ≤ 100 → SetB w tb ab fb ib ah f it m → (∀ l ∈ setsL m ah f it, M l) →
     SeqR Tryz.prog 159 #[.pointer (some ⟨tb,0,none⟩),.pointer (some ⟨ab,0,none⟩),.pointer (some ⟨fb,0,none⟩),.pointer (some ⟨ib,0,none⟩)] SlX.enc (SlX.ok M) (fun xs=>xs.map SlX.l=setsL m ah f it) w)
   (ah:List Int) (f:Nat) (w:World) (tb ab fb ib:Nat) (hal:ah.length≤20 - (m+1)) (hf8:f≤100) (h:SetB w tb ab fb ib ah f it (m+1)) (hM:∀ l ∈ setsL (m+1) ah f it,M l) :
   SeqR Tryz.prog 159 #[.pointer (some ⟨tb,0,none⟩),.pointer (some ⟨ab,0,none⟩),.pointer (some ⟨fb,0,none⟩),.pointer (some ⟨ib,0,none⟩)] SlX.enc (SlX.ok M) (fun xs=>xs.map SlX.l=setsL (m+1) ah f it) w:=by
 intro l J Jx W hW hl hJ hJx hY h0
 obtain ⟨ht,⟨x,n,c,ha,hI⟩,hf,hi⟩:=h.below (hW.mono (Nat.le_refl _))
 have hB1:Below W.heap.size W (W.alloc (.cells #[.func (.yield l) #[] #[]] 66 (0,0))):=(Below.refl _ _).alloc (Nat.le_refl _) _
 have hv:=heap_new W (.cells #[.func (.yield l) #[] #[]] 66 (0,0))
 have hJ1:J [] (W.alloc (.cells #[.func (.yield l) #[] #[]] 66 (0,0))):=hJ.alloc _ h0
 have HI1:=Lib.hid (hI.below hB1)
 have ct:=cell_later hB1 (show W.cell? ⟨tb,0,none⟩=some (.int .i64 ((m:Int)+1)) by rw [cell_of_block ht];rfl)
 have ca:=cell_later hB1 (show W.cell? ⟨ab,0,none⟩=some (.slice x n c) by rw [cell_of_block ha];rfl)
 have cf:=cell_later hB1 (show W.cell? ⟨fb,0,none⟩=some (.int .i64 (f:Int)) by rw [cell_of_block hf];rfl)
 have ci:=cell_later hB1 (show W.cell? ⟨ib,0,none⟩=some (.int .i64 (it:Int)) by rw [cell_of_block hi];rfl)
 have c5:(W.alloc (.cells #[.func (.yield l) #[] #[]] 66 (0,0))).cell? ⟨W.heap.size,0,none⟩=some (.func (.yield l) #[] #[]):=by rw [cell_of_block hv];rfl
 have HL:=Lib.hid hl
 have HJ:=Lib.hid hJ
 have HJX:=Lib.hid hJx
 have HY:=Lib.hid hY
 have HIH:=Lib.hid ih
 have HMM:=Lib.hid hM
 have HB1:=Lib.hid hB1
 have HJ1:=Lib.hid hJ1
 have d0:(((m:Int)+1) == 0)=false:=by rw [beq_eq_false_iff_ne];omega
 clear hI hl hJ hJx hY ih hB1 hv hJ1 ht ha hf hi h0 h hW hM
 refine callsIn_of_wp_marks Tryz.func159 rfl trivial ?_ rfl
 simp only [Tryz.ntmps159,List.size_toArray,List.length_cons,List.length_nil,Nat.reduceAdd,Nat.reduceSub,Array.replicate_succ,Array.replicate_zero,List.push_toArray,List.append_toArray,List.nil_append,List.cons_append]
 refine (wpIn_wide (n:=0)).2 ?_
 go_wp2_with fail
 generalize (W.alloc (.cells #[.func (.yield l) #[] #[]] 66 (0,0)))=W5 at HI1 ct ca cf ci c5 HB1 HJ1 ⊢
 refine wp_loop (fun a wr => ∃ (k:Nat) (ds:List Nat) (u7 u14 u15 u16 u17 u18 u19 u20 u21 u22 u23 u24 u25 u26 u27 u28 u29 u30 u31 u32 u33 u34 u35 u36:Value),a={ tmps:=#[.func (.yield l) #[] #[],.pointer (some ⟨tb,0,none⟩),.pointer (some ⟨ab,0,none⟩),.pointer (some ⟨fb,0,none⟩),.pointer (some ⟨ib,0,none⟩),.pointer (some ⟨W.heap.size,0,none⟩),.int .i64 (k:Int),u7,.int .i64 ((m:Int)+1),.bool false,undef,undef,undef,.int .i64 (f:Int),u14,u15,u16,u17,u18,u19,u20,u21,u22,u23,u24,u25,u26,u27,u28,u29,u30,u31,u32,u33,u34,u35,u36],defers:=marks ds }∧f≤k∧k≤100∧(k≤it - m∨k=f)∧Hid (SetQ J W5 W.heap.size m ah f it k ds wr)) (fun a _=>200 - (intOf (a.tmps.getD 6 undef)).toNat) ?start ?round
 case start =>
   exact ⟨f,[],_,_,_,_,_,_,_,_,_,_,_,_,_,_,_,_,_,_,_,_,_,_,_,_,rfl,Nat.le_refl _,hf8,.inr rfl,Lib.hid ⟨⟨[],by rw [setsU_start];rfl,HJ1.out⟩,Below.refl _ _,MkD.nil _ _⟩⟩
 case round =>
   rintro a wr ⟨k,ds,u7,u14,u15,u16,u17,u18,u19,u20,u21,u22,u23,u24,u25,u26,u27,u28,u29,u30,u31,u32,u33,u34,u35,u36,rfl,hfk,hk100,hkm,HQ⟩
   have hbel:=HQ.out.2.1
   have kt:=cell_later hbel ct
   have ka:=cell_later hbel ca
   have ki:=cell_later hbel ci
   have k5:=cell_later hbel c5
   have HI2:=Lib.hid (HI1.out.below hbel)
   clear hbel
   by_cases hlt:k+(m+1)≤it
   · have d1:decide ((k:Int)≤(it:Int) - ((m:Int)+1))=true:=decide_eq_true (by omega)
     have e1:IntKind.i64.wrap ((k:Int)+1)=((k+1:Nat):Int):=by rw [IntWalk.i64_in _ (by omega)];omega
     have e2:IntKind.i64.wrap (m:Int)=(m:Int):=by rw [IntWalk.i64_in _ (by omega)]
     have HSETS:Hid (∀ (a:Option Addr) (n c:Nat) (w:World),IsI w a n c (ah ++ [(k:Int)])→Calls Tryz.prog 118 #[.slice a n c,.int .i64 (IntKind.i64.wrap ((k:Int)+1)),.int .i64 (it:Int),.int .i64 (IntKind.i64.wrap (m:Int))] w fun e w' => ∃ tb ab fb ib,e=.returned (.func (.func 159) #[] #[.pointer (some ⟨tb,0,none⟩),.pointer (some ⟨ab,0,none⟩),.pointer (some ⟨fb,0,none⟩),.pointer (some ⟨ib,0,none⟩)])∧Below w.heap.size w w'∧SetB w' tb ab fb ib (ah ++ [(k:Int)]) (k+1) it m):=Lib.hid (fun a n c w hI=>by
       rw [e1,e2];exact sets_any a n c _ (k+1) it m w hI)
     have hd0:=(Below.refl wr.heap.size wr).drew
     have hdA:∀ o,Below wr.heap.size wr (wr.alloc o).drew:=fun o=>((Below.refl _ _).alloc (Nat.le_refl _) o).drew
     have HAL:Hid (ah.length≤19):=Lib.hid (by omega)
     clear e1 e2
     go_wp2_with fail
     go_region_held3 (fun w' => w'.cell? ⟨ab, 0, none⟩ = some (.slice x n c) ∧ w'.cell? ⟨ib, 0, none⟩ = some (.int .i64 (it : Int)) ∧ w'.cell? ⟨tb, 0, none⟩ = some (.int .i64 ((m : Int) + 1))) (first
           | with_reducible exact ⟨cell_later hB4 ka,cell_later hB4 ki,cell_later hB4 kt⟩
           | with_reducible exact ⟨cell_later hB3 ka,cell_later hB3 ki,cell_later hB3 kt⟩
           | with_reducible exact ⟨cell_later (hB1.alloc hB1.size _) ka,cell_later (hB1.alloc hB1.size _) ki,cell_later (hB1.alloc hB1.size _) kt⟩
           | with_reducible exact ⟨cell_later hB1 ka,cell_later hB1 ki,cell_later hB1 kt⟩
           | with_reducible exact ⟨cell_later (hdA _) ka,cell_later (hdA _) ki,cell_later (hdA _) kt⟩
           | with_reducible exact ⟨cell_later hd0 ka,cell_later hd0 ki,cell_later hd0 kt⟩) (first
         | (go_at_call 57;((with_reducible refine (iclone_any x n c ah wr.drew (HI2.out.below hd0) (by have:=HAL.out;omega)).mono ?_);rintro e w1 ⟨a1,c1,rfl,hb1,ho1⟩;have hB1:Below wr.heap.size wr w1:=hd0.trans (hb1.mono hd0.size)))
         | (go_at_call 57;((with_reducible refine (iclone_any x n c ah _ (HI2.out.below (hdA _)) (by have:=HAL.out;omega)).mono ?_);rintro e w1 ⟨a1,c1,rfl,hb1,ho1⟩;have hB1:Below wr.heap.size wr w1:=(hdA _).trans (hb1.mono (hdA _).size)))
         | (refine step_append_any rowInt rfl (.tmp 22) (.tmp 24) rfl wr.heap.size _ ah.length (icells ah) rfl (owns_low (ho1.alloc _) hd0.size) (some ⟨w1.heap.size,0,none⟩) 1 1 [.int .i64 (k:Int)] rfl rfl (At.one w1 _ _) (one_cell _ rfl) (by have:=HAL.out;unfold maxLen;omega) (by have:=HAL.out;omega) (hB1.alloc hB1.size _).size ?_;intro a3' c3' w3 ho3 hg3 _;have hB3:Below wr.heap.size wr w3:=(hB1.alloc hB1.size _).grown hg3 (hB1.alloc hB1.size _).size (fun i hi=>owns_base (owns_low ho1 hd0.size) i hi);have hI3:IsI w3 a3' (ah.length+1) c3' (ah ++ [(k:Int)]):=isI_of_owns (by rw [icells_append];exact ho3) (by simp))
         | (refine step_append_any rowInt rfl (.tmp 22) (.tmp 24) rfl wr.heap.size _ ah.length (icells ah) rfl (owns_low ho1 (by simp)) (some ⟨wr.heap.size,0,none⟩) 1 1 [.int .i64 (k:Int)] rfl rfl ((At.one wr _ _).drew.later hb1) (one_cell _ rfl) (by have:=HAL.out;unfold maxLen;omega) (by have:=HAL.out;omega) hB1.size ?_;intro a3' c3' w3 ho3 hg3 _;have hB3:Below wr.heap.size wr w3:=hB1.grown hg3 hB1.size (fun i hi=>owns_base (owns_low ho1 (by simp)) i hi);have hI3:IsI w3 a3' (ah.length+1) c3' (ah ++ [(k:Int)]):=isI_of_owns (by rw [icells_append];exact ho3) (by simp))
         | (go_at_call 118;((with_reducible refine (HSETS.out a3' (ah.length+1) c3' w3 hI3).mono ?_);rintro e w4 ⟨tb4,ab4,fb4,ib4,rfl,hb4,hs4⟩;have hB4:Below wr.heap.size wr w4:=hB3.trans (hb4.mono hB3.size)))
         | fail)
     all_goals
       have HB4:=Lib.hid hB4
       have HS4:=Lib.hid hs4
       have HK5:=Lib.hid k5
       clear hB4 hs4 hI3 hB3 ho3 hg3 ho1 hB1 hb1 hb4 kt ka ki k5 hd0 hdA HSETS HI2
       go_wp2_with fail
       obtain ⟨⟨pre,hpre,hJp⟩,hbel,hmk⟩:=HQ.out
       have HPRE:=Lib.hid hpre
       have hb54:=hbel.trans (HB4.out.mono hbel.size)
       have hJ4:=own_below HJ.out hJp HB4.out
       have hsz4:W.heap.size<w4.heap.size:=Nat.lt_of_lt_of_le (World.block_lt_of_cell? _ _ c5) hb54.size
       have hmk4:=hmk.below HB4.out
       refine wp_rangeR (X:=SlX) (gf:=159) (lb:=#[.pointer (some ⟨tb4,0,none⟩),.pointer (some ⟨ab4,0,none⟩),.pointer (some ⟨fb4,0,none⟩),.pointer (some ⟨ib4,0,none⟩)]) rfl (enters_of Tryz.func159 (by kernel_rfl) rfl)
         (HIH.out (ah ++ [(k:Int)]) (k+1) w4 tb4 ab4 fb4 ib4 (by have:=HAL.out;simp;omega) (by omega) HS4.out (fun l hl=>HMM.out l (setsL_mem hfk hlt hl))) (Below.refl _ _) (fun _=>rfl) (SlX.put M)
         (fun q W' => J (pre ++ q) W'∧Below W5.heap.size W5 W'∧MkD W.heap.size ds W')
         (fun c q W' => c=Code.ret∧(∃ p,Jx p W')∧MkD W.heap.size ds W')
         (OwnFrom.and (own_pre (OwnFrom.mono HJ.out (Nat.le_of_lt hsz4)) pre) (OwnFrom.and (ownFrom_below (Nat.le_refl _) hb54.size) (own_marks _ _ _ hmk4.lt)))
         (fun c=>own_stop c (OwnFrom.mono HJX.out (Nat.le_of_lt hsz4)) hmk4.lt)
         ⟨by rw [List.append_nil];exact hJ4,hb54,hmk4⟩ ?_ ?_ ?_ ?_ ?_
       rotate_left
       · intro l' y Wx K hK
         dsimp only [SlX.enc]
         gi_wp2
         exact hK
       · rintro l' q y Wx hsz ⟨hj,hb,hm'⟩ hy0
         obtain ⟨fn,tmps,assign,body,hy,hR⟩:=HY.out (pre ++ q) y Wx (by omega) hj hy0
         have c5':=cell_later hb c5
         have HR:=Lib.hid (RoundIn.inR l' hR)
         have HBx:=Lib.hid hb
         have HMx:=Lib.hid hm'
         clear hR hb hm' hj hy0
         dsimp only [SlX.enc] at hy
         gi_wp2_with fail
         refine ⟨rfl,?_⟩
         refine HR.out.mono ?_
         rintro e W3 (⟨rfl,hJ3,hk3⟩ | ⟨rfl,hJx3,hk3⟩)
         · have HE:Hid (Below Wx.heap.size Wx W3∧J (pre ++ (q ++ [y])) W3∧Below W5.heap.size W5 W3∧MkD W.heap.size ds W3):=Lib.hid ⟨hk3,by rw [← List.append_assoc];exact hJ3,HBx.out.trans (hk3.mono HBx.out.size),HMx.out.below hk3⟩
           clear hJ3 hk3
           gi_wp2_with fail
           exact HE.out
         · have HE:Hid (KeepsFrom w4.heap.size Wx W3∧(∃ p,Jx p W3)∧MkD W.heap.size ds W3):=Lib.hid ⟨keeps_mono hk3 (by have:=HL.out;omega),⟨_,hJx3⟩,HMx.out.keeps hk3 (by have:=HL.out;omega)⟩
           clear hJx3 hk3
           gi_wp2_with fail
           exact ⟨HE.out.1,rfl,HE.out.2⟩
       · rintro D ys Wd hD hS ⟨hj,hb,hm'⟩ hK
         have HE:Hid (SetQ J W5 W.heap.size m ah f it (k+1) (D :: ds) Wd):=Lib.hid ⟨⟨pre ++ ys,by rw [List.map_append,HPRE.out,hS,setsU_succ _ _ _ _ _ hfk],hj⟩,hb,hm'.cons hK (Nat.le_of_lt hsz4) hD hmk4.lt⟩
         clear hS hj hb hm' hK
         go_wp2_with fail
         refine ⟨⟨k+1,D :: ds,_,_,_,_,_,_,_,_,_,_,_,_,_,_,_,_,_,_,_,_,_,_,_,_,rfl,by omega,by omega,.inl (by omega),HE⟩,?_⟩
         simp [intOf]
         omega
       · rintro D cc q Wd hD ⟨rfl,⟨p,hp⟩,hm'⟩ hK
         have HE:=Lib.hid (hm'.cons hK (Nat.le_of_lt hsz4) hD hmk4.lt)
         have HP:=Lib.hid hp
         clear hp hK hm'
         go_wp2_with fail
         exact leaves_marks (B:=W.heap.size) (fun W' => ∃ p,Jx p W') (fun W' l' ⟨p,hp⟩ hl' ho=>⟨p,HJX.out.putObj _ hp hl' ho rfl⟩) (fun W' hW' => ⟨_,results_none rfl _ _ _,⟨_,rfl⟩,.inr hW'⟩) (D :: ds) Wd HE.out ⟨p,HP.out⟩
   · have d1:decide ((k:Int)≤(it:Int) - ((m:Int)+1))=false:=decide_eq_false (by omega)
     obtain ⟨⟨pre,hpre,hJp⟩,hbel,hmk⟩:=HQ.out
     have HS:Hid (pre.map SlX.l=setsL (m+1) ah f it):=Lib.hid (by rw [hpre];exact setsL_end m ah f it k hfk (by omega) hkm)
     have HP:=Lib.hid hJp
     have HM:=Lib.hid hmk
     clear hpre hJp hbel hmk
     go_wp2_with fail
     exact leaves_marks (B:=W.heap.size) (fun W' => J pre W') (fun W' l' hp hl' ho=>HJ.out.putObj _ hp hl' ho rfl) (fun W' hW' => ⟨_,results_none rfl _ _ _,⟨_,rfl⟩,.inl ⟨pre,HS.out,hW'⟩⟩) ds wr HM.out HP.out
theorem sets1_ok (M:List Int→Prop) (it:Nat) (hit:it≤8):∀ (m:Nat),m≤8→∀ (ah:List Int) (f:Nat) (w:World) (tb ab fb ib:Nat),ah.length≤20 - m→f≤100→SetB w tb ab fb ib ah f it m→(∀ l ∈ setsL m ah f it,M l) →
   SeqR Tryz.prog 159 #[.pointer (some ⟨tb,0,none⟩),.pointer (some ⟨ab,0,none⟩),.pointer (some ⟨fb,0,none⟩),.pointer (some ⟨ib,0,none⟩)] SlX.enc (SlX.ok M) (fun xs=>xs.map SlX.l=setsL m ah f it) w
 | 0,_,ah,f,w,tb,ab,fb,ib,_,_,h,hM=>sets1_zero M it ah f w tb ab fb ib h hM
 | m+1,hm,ah,f,w,tb,ab,fb,ib,h1,h2,h,hM=>sets1_succ M it m hit (by omega) (sets1_ok M it hit m (by omega)) ah f w tb ab fb ib h1 h2 h hM
end
def wthB (g:List (List Int)) (l:List Int) (i:Int):Bool:=(g.getD i.toNat []).all fun k=>decide (k ∈ l)
def wthL (g:List (List Int)) (sm l:List Int):Nat:=(sm.filter (wthB g l)).length
theorem wthL_le (g:List (List Int)) (sm l:List Int):wthL g sm l≤sm.length:=List.length_filter_le _ _
theorem few11_any (bx:Nat) (x:Option Addr) (n c:Nat) (l:List Int) (k:Int) (w:World) (hx:w.cell? ⟨bx,0,none⟩=some (.slice x n c)) (h:IsI w x n c l) :
   Calls Tryz.prog 116 #[.int .i64 k,.pointer (some ⟨bx,0,none⟩)] w fun e w' => e=.returned (.bool (!decide (k ∈ l)))∧Below w.heap.size w w':=by
 have HI:=Lib.hid h
 clear h
 go_enter Tryz.func116,Tryz.ntmps116
 go_wp2_with fail
 refine (containsI_any k x n c l w HI.out).mono ?_;rintro e w1 ⟨rfl,rfl⟩
 go_wp2_with fail
 go_ret
 exact ⟨rfl,Below.refl _ _⟩
theorem wth_any {near row l:List Int} (h:∀ k,k ∈ near↔k ∈ row):(near.any fun k => !decide (k ∈ l)) = !(row.all fun k=>decide (k ∈ l)):=by
 have e:(near.any fun k => !decide (k ∈ l))=(row.any fun k => !decide (k ∈ l)):=by
   rw [Bool.eq_iff_iff,List.any_eq_true,List.any_eq_true]
   exact ⟨fun ⟨k,hk,hn⟩ => ⟨k,(h k).1 hk,hn⟩,fun ⟨k,hk,hn⟩ => ⟨k,(h k).2 hk,hn⟩⟩
 rw [e,List.all_eq_not_any_not,Bool.not_not]
set_option maxRecDepth 100000 in
set_option maxHeartbeats 8000000 in
theorem fwithin_any (sb gb ib:Nat) (a sa la:Option Addr) (n c sn sc ln lc:Nat) (g:List (List Int)) (items:Nat) (sm l:List Int) (w:World)
   (h1:w.heap[sb]?=some (.cells #[.slice sa sn sc] 22 (0,0))) (h2:w.heap[gb]?=some (.cells #[.slice a n c] 23 (0,0))) (h3:w.heap[ib]?=some (.cells #[.int .i64 (items:Int)] 3 (0,0)))
   (hI:IsII w a n c g) (hg:GOk g items) (hs:IsI w sa sn sc sm) (hr:RisL sm g.length) (hl:IsI w la ln lc l) :
   Calls Tryz.prog 114 #[.slice la ln lc,.pointer (some ⟨sb,0,none⟩),.pointer (some ⟨gb,0,none⟩),.pointer (some ⟨ib,0,none⟩)] w fun e w' => e=.returned (.int .i64 (wthL g sm l))∧Below w.heap.size w w':=by
 obtain rfl:=hs.1
 have hsl:=hs.len
 have hb0:Below w.heap.size w (w.alloc (.cells #[.slice la ln lc] 22 (0,0))):=(Below.refl _ _).alloc (Nat.le_refl _) _
 have hv:=heap_new w (.cells #[.slice la ln lc] 22 (0,0))
 have c1:=cell_later hb0 (show w.cell? ⟨sb,0,none⟩=some (.slice sa sm.length sc) by rw [cell_of_block h1];rfl)
 have c2:=cell_later hb0 (show w.cell? ⟨gb,0,none⟩=some (.slice a n c) by rw [cell_of_block h2];rfl)
 have c3:=cell_later hb0 (show w.cell? ⟨ib,0,none⟩=some (.int .i64 (items:Int)) by rw [cell_of_block h3];rfl)
 have c4:(w.alloc (.cells #[.slice la ln lc] 22 (0,0))).cell? ⟨w.heap.size,0,none⟩=some (.slice la ln lc):=by rw [cell_of_block hv];rfl
 have HI:=Lib.hid (hI.below hb0)
 have HS:=Lib.hid (hs.below hb0)
 have HL:=Lib.hid (hl.below hb0)
 have HG:=Lib.hid hg
 have HR:=Lib.hid hr
 have HB0:=Lib.hid hb0
 clear h1 h2 h3 hI hg hs hr hl hb0 hv
 go_enter Tryz.func114,Tryz.ntmps114
 go_wp2_with fail
 generalize w.alloc (.cells #[.slice la ln lc] 22 (0,0))=W at c1 c2 c3 c4 HI HS HL HB0 ⊢
 go_wp2_with fail
 go_loopw [5,12] (fun q i wr => ∃ j:Nat,j≤sm.length∧i=.int .i64 (j:Int)∧q=.int .i64 (wthL g (sm.take j) l)∧Hid (Below W.heap.size W wr)) (fun _ i _=>sm.length - (intOf i).toNat)
 case atStart=>exact ⟨0,Nat.zero_le _,rfl,rfl,Lib.hid (Below.refl _ _)⟩
 case round =>
   obtain ⟨j,hj,rfl,rfl,HQ⟩:=hrel
   by_cases hlt:j<sm.length
   · obtain ⟨b,off,rfl,hblt,ck0⟩:=HS.out.at j hlt
     have ck:=cell_later HQ.out ck0
     have k2:=cell_later HQ.out c2
     have k3:=cell_later HQ.out c3
     have hzr:=HR.out.at j hlt
     obtain ⟨p,hp⟩:=Int.eq_ofNat_of_zero_le hzr.1
     have hwl:=Nat.le_trans (wthL_le g (sm.take j) l) (show (sm.take j).length≤j by simp;omega)
     have HW:Hid (wthL g (sm.take (j+1)) l=wthL g (sm.take j) l+if wthB g l (p:Int) then 1 else 0):=Lib.hid (by
       unfold wthL
       rw [List.take_succ_eq_append_getElem hlt,hp,List.filter_append,List.length_append,List.filter_cons]
       split <;> simp)
     rw [hp] at ck
     have hq0:=Below.alloc (o:=.cells #[.int .i64 (p:Int)] 3) (Below.refl wr.heap.size wr) (Nat.le_refl _)
     have HI2:=Lib.hid (HI.out.below (HQ.out.trans (hq0.mono HQ.out.size)))
     have hone:IsI (wr.alloc (.cells #[.int .i64 (p:Int)] 3)) (some ⟨wr.heap.size,0,none⟩) 1 1 [(p:Int)]:=IsI.fresh wr [(p:Int)] _ _ _ rfl 1 1 rfl rfl (by show 1≤maxLen;decide)
     have HO:=Lib.hid hone
     have HRP:Hid (RisL [(p:Int)] g.length):=Lib.hid ⟨by simp,fun z hz=>by rw [List.mem_singleton.1 hz];omega⟩
     have HB:=Lib.hid (HQ.out.trans (hq0.mono HQ.out.size))
     clear ck0 hzr hp hq0 hone
     go_wp2_with fail
     refine (near_any a (some ⟨wr.heap.size,0,none⟩) n c 1 1 g items [(p:Int)] _ HI2.out HG.out HO.out HRP.out).mono ?_
     rintro e w2 ⟨a2,c2',near,rfl,hb2,hn2,_,hmem⟩
     have HB2:=Lib.hid (HB.out.trans (hb2.mono HB.out.size))
     have k4:=cell_later HB2.out c4
     have HN:=Lib.hid hn2
     have HL2:=Lib.hid (HL.out.below HB2.out)
     have HA:Hid ((near.any fun k => !decide (k ∈ l)) = !wthB g l (p:Int)):=Lib.hid (wth_any (fun k=>by
       rw [hmem k]
       constructor
       · rintro ⟨i,hi,hk⟩
         have:i=p:=by have:=List.mem_singleton.1 hi;omega
         rw [this] at hk;simpa using hk
       · intro hk;exact ⟨p,by simp,by simpa using hk⟩))
     clear hb2 hn2 hmem k2 k3 ck
     go_wp2_with fail
     refine (conI_gen 116 #[.pointer (some ⟨w.heap.size,0,none⟩)] (fun k => !decide (k ∈ l)) a2 near.length c2' near w2 HN.out (fun x W' => (enters_of Tryz.func116 (by kernel_rfl) rfl) _ _) (fun z hz W' hW' => few11_any w.heap.size la ln lc l z W' (cell_later hW' k4) (HL2.out.below hW'))).mono ?_
     rintro e w3 ⟨rfl,hb3⟩
     have HQ3:=Lib.hid (HB2.out.trans (hb3.mono HB2.out.size))
     rw [HA.out]
     clear hb3 k4
     cases hq:wthB g l (p:Int) with
     | true =>
       rw [hq] at HW
       go_wp2_with fail
       go_roundw
       case rel=>exact ⟨j+1,by omega,by go_num,by rw [HW.out];go_num,HQ3⟩
       case measure=>simp [intOf];omega
     | false =>
       rw [hq] at HW
       go_wp2_with fail
       go_roundw
       case rel=>exact ⟨j+1,by omega,by go_num,by rw [HW.out];rfl,HQ3⟩
       case measure=>simp [intOf];omega
   · have hjj:j=sm.length:=by omega
     subst hjj
     have HF:=Lib.hid (HB0.out.trans (HQ.out.mono HB0.out.size))
     have HT:Hid (sm.take sm.length=sm):=Lib.hid (List.take_length)
     rw [HT.out]
     go_wp2_with fail
     go_ret
     exact ⟨rfl,HF.out⟩
end Go.Proofs.YtmmmjohoihpbeaaGreat
