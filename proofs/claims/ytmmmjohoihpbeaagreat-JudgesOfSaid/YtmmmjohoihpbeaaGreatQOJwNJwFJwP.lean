/- The package graphs: Near;conditions: those typed. -/
import Derived.Test.YtmmmjohoihpbeaaGreatQOStMktJwEJwTm
import Derived.RangeFuncCalls
namespace Go.Proofs.YtmmmjohoihpbeaaGreat
section
open Go.RowKit Go.Shelf
set_option linter.unusedVariables false
set_option linter.unusedSimpArgs false
attribute [local go_sem] Oper.semAt_some
def nrF (some:List Int) (pre:List (Fin 8 × Fin 8)) (k:Nat):Int:=if (pre.any fun x=>decide ((x.1.val:Int) ∈ some) && decide (x.2.val=k)) then 1 else 0
theorem nrF_nil (some:List Int):nrF some []=fun _=>0:=by funext k;rfl
theorem nrF_in {some:List Int} {pre:List (Fin 8 × Fin 8)} {x:Fin 8 × Fin 8} (h:(x.1.val:Int) ∈ some):nrF some (pre ++ [x])=updF (nrF some pre) x.2.val 1:=by
 funext k
 unfold nrF updF
 rw [List.any_append]
 by_cases hk:k=x.2.val
 · simp [hk,h]
 · have hk2:¬ x.2.val=k:=fun e=>hk e.symm
   simp [hk,hk2]
theorem nrF_out {some:List Int} {pre:List (Fin 8 × Fin 8)} {x:Fin 8 × Fin 8} (h:¬ (x.1.val:Int) ∈ some):nrF some (pre ++ [x])=nrF some pre:=by
 funext k
 unfold nrF
 rw [List.any_append]
 simp [h]
theorem nrF_one {some:List Int} {pre:List (Fin 8 × Fin 8)} {k:Nat}:nrF some pre k=1↔∃ x ∈ pre,(x.1.val:Int) ∈ some∧x.2.val=k:=by
 unfold nrF
 by_cases h:(pre.any fun x=>decide ((x.1.val:Int) ∈ some) && decide (x.2.val=k))=true
 · rw [if_pos h]
   simpa using h
 · rw [if_neg h]
   simpa using h
theorem cells8 {w:World} {b:Nat} {f:Nat→Int} {t:TypeId} {fz:Nat × Nat} (h:w.heap[b]?=some (.cells (fnA 8 f) t fz)):w.cell? ⟨b,0,none⟩=some (.int .i64 (f 0))∧w.cell? ⟨b,1,none⟩=some (.int .i64 (f 1))∧w.cell? ⟨b,2,none⟩=some (.int .i64 (f 2))∧w.cell? ⟨b,3,none⟩=some (.int .i64 (f 3))∧w.cell? ⟨b,4,none⟩=some (.int .i64 (f 4))∧w.cell? ⟨b,5,none⟩=some (.int .i64 (f 5))∧w.cell? ⟨b,6,none⟩=some (.int .i64 (f 6))∧w.cell? ⟨b,7,none⟩=some (.int .i64 (f 7)):=by
 simp only [cell_of_block h]
 exact ⟨rfl,rfl,rfl,rfl,rfl,rfl,rfl,rfl⟩
theorem run_index8 (f:Nat→Int):∀ (j:Nat) (hj:j<8) (W:World),(Instr.index 80 (.agg #[.int .i64 (f 0),.int .i64 (f 1),.int .i64 (f 2),.int .i64 (f 3),.int .i64 (f 4),.int .i64 (f 5),.int .i64 (f 6),.int .i64 (f 7)]) (.int .i64 (j:Int))).run Tryz.prog W=.ok (.int .i64 (f j)) W
 | 0,_,_=>by kernel_rfl
 | 1,_,_=>by kernel_rfl
 | 2,_,_=>by kernel_rfl
 | 3,_,_=>by kernel_rfl
 | 4,_,_=>by kernel_rfl
 | 5,_,_=>by kernel_rfl
 | 6,_,_=>by kernel_rfl
 | 7,_,_=>by kernel_rfl
 | k+8,h,_=>by omega
def setL (f:Nat→Int) (k:Nat):List Int:=((List.range k).filter fun j=>f j == 1).map fun j:Nat=>(j:Int)
theorem setL_succ (f:Nat→Int) (k:Nat):setL f (k+1)=setL f k ++ if f k == 1 then [(k:Int)] else []:=by
 unfold setL
 rw [List.range_succ,List.filter_append,List.map_append]
 congr 1
 by_cases h:(f k == 1)=true
 · simp [h]
 · simp [h]
theorem setL_len (f:Nat→Int) (k:Nat):(setL f k).length≤k:=by
 unfold setL;rw [List.length_map];exact Nat.le_trans (List.length_filter_le _ _) (by simp)
theorem setL_mem (f:Nat→Int) (k:Nat) (z:Int):z ∈ setL f k↔∃ j:Nat,j<k∧f j=1∧z=(j:Int):=by
 unfold setL
 rw [List.mem_map]
 constructor
 · rintro ⟨j,hj,rfl⟩
   obtain ⟨h1,h2⟩:=List.mem_filter.1 hj
   exact ⟨j,List.mem_range.1 h1,by simpa using h2,rfl⟩
 · rintro ⟨j,hj,hf,rfl⟩
   exact ⟨j,List.mem_filter.2 ⟨List.mem_range.2 hj,by simpa using hf⟩,rfl⟩
theorem setL_ris (f:Nat→Int) (k many:Nat) (h:∀ j,j<k→f j=1→j<many):RisL (setL f k) many:=by
 refine ⟨?_,fun z hz=>by obtain ⟨j,hj,hf,rfl⟩:=(setL_mem f k z).1 hz;have:=h j hj hf;omega⟩
 unfold setL
 refine List.Pairwise.map _ (fun a b (hab:a<b)=>by omega) (List.Pairwise.filter _ List.pairwise_lt_range)
theorem near_law {g:List (List Int)} {items:Nat} {some:List Int} (hg:GOk g items) (hs:RisL some g.length):RisL (setL (nrF some (edgK g g.length)) 8) items∧∀ k:Int,k ∈ setL (nrF some (edgK g g.length)) 8↔∃ i:Nat,(i:Int) ∈ some∧k ∈ g.getD i []:=by
 have h1:=hg.hn
 refine ⟨setL_ris _ _ _ fun j hj hf => ?_,fun k => ?_⟩
 · obtain ⟨x,hx,_,e⟩:=nrF_one.1 hf
   have:=(edg_mem hg x.1 x.2).1 hx
   have:=((hg.at x.1.val).2 _ this.2).2
   omega
 · rw [setL_mem]
   constructor
   · rintro ⟨j,hj,hf,rfl⟩
     obtain ⟨x,hx,hm,e⟩:=nrF_one.1 hf
     have:=(edg_mem hg x.1 x.2).1 hx
     exact ⟨x.1.val,hm,by rw [← e];exact this.2⟩
   · rintro ⟨i,hi,hk⟩
     have hb:=(hs.2 _ hi).2
     have hkb:=(hg.at i).2 _ hk
     have h8:=hg.hi
     obtain ⟨q,rfl⟩:=Int.eq_ofNat_of_zero_le hkb.1
     have hq:q<8:=by omega
     have hi8:i<8:=by omega
     exact ⟨q,hq,nrF_one.2 ⟨(⟨i,hi8⟩,⟨q,hq⟩),(edg_mem hg _ _).2 ⟨by show i<g.length;omega,hk⟩,hi,rfl⟩,rfl⟩
theorem own_heap {α:Type} (B k:Nat) (C:List α→Array Value) (t:TypeId):OwnFrom B (fun pre W=>W.heap[k]?=some (.cells (C pre) t (0,0))):=fun s W W' row hs hg hr=>by
 refine (hg.block k (lt_of_heap hs) (fun e => ?_)).trans hs
 obtain ⟨_,o,h1,h2⟩:=hr k e.symm
 rw [hs] at h1;cases h1;cases h2
set_option maxRecDepth 100000 in
set_option maxHeartbeats 4000000 in
theorem near_any (a sa:Option Addr) (m cap sn sc:Nat) (g:List (List Int)) (items:Nat) (some:List Int) (w:World)
   (hI:IsII w a m cap g) (hg:GOk g items) (hS:IsI w sa sn sc some) (hs:RisL some g.length) :
   Calls Tryz.prog 115 #[.slice a m cap,.int .i64 items,.slice sa sn sc] w fun e W' => ∃ a' c' l,e=.returned (.tuple #[.slice a' l.length c',.int .i64 0])∧Below w.heap.size w W'∧IsI W' a' l.length c' l∧RisL l items∧∀ k:Int,k ∈ l↔∃ i:Nat,(i:Int) ∈ some∧k ∈ g.getD i []:=by
 obtain rfl:=hI.1
 obtain rfl:=hS.1
 have hb0:Below w.heap.size w (w.alloc (.cells #[.slice sa some.length sc] 22 (0,0))):=(Below.refl _ _).alloc (Nat.le_refl _) _
 have hv:=heap_new w (.cells #[.slice sa some.length sc] 22 (0,0))
 have HI:=Lib.hid (hI.below hb0)
 have HS:=Lib.hid (hS.below hb0)
 have HG:=Lib.hid hg
 have HR:=Lib.hid hs
 clear hI hg hS hs
 refine (callsIn_wide (n:=3)).1 ?_
 refine callsIn_of_wp_marks Tryz.func115 rfl trivial ?_ rfl
 simp only [Tryz.ntmps115,List.size_toArray,List.length_cons,List.length_nil,Nat.reduceAdd,Nat.reduceSub,Array.replicate_succ,Array.replicate_zero,List.push_toArray,List.append_toArray,List.nil_append,List.cons_append]
 gi_wp2_with fail
 generalize w.alloc (.cells #[.slice sa some.length sc] 22 (0,0))=W at hb0 hv HI HS ⊢
 have c0:W.cell? ⟨w.heap.size,0,none⟩=Option.some (.slice sa some.length sc):=by rw [cell_of_block hv];rfl
 have HB:=Lib.hid hb0
 have HV:=Lib.hid hv
 clear hb0 hv
 gi_wp2_with fail
 refine ⟨trivial,?_⟩
 refine (callsIn_wide.2 (gcheck_ok a g.length cap g items W HI.out HG.out)).mono ?_;rintro e w1 ⟨rfl,hb1⟩
 have HB1:=Lib.hid (HB.out.trans (hb1.mono HB.out.size))
 have HI1:=Lib.hid (HI.out.below hb1)
 have HS1:=Lib.hid (HS.out.below hb1)
 have HV1:=Lib.hid (below_heap hb1 HV.out (lt_of_heap HV.out))
 have c1:=cell_later hb1 c0
 clear hb1 c0 HB HI HS HV
 gi_wp2_with fail
 refine ⟨trivial,?_⟩
 refine (callsIn_wide.2 (grises_ok sa some.length sc some g.length w1 HS1.out HR.out)).mono ?_;rintro e w2 ⟨rfl,rfl⟩
 gi_wp2_with fail
 refine ⟨trivial,?_⟩
 refine (edges_in Fence.wide 2 trivial rfl a g.length cap _).mono ?_;rintro e w2 ⟨rfl,rfl⟩
 obtain ⟨m0,m1,hb2⟩:((w1.alloc (.cells #[.int .i64 0,.int .i64 0,.int .i64 0,.int .i64 0,.int .i64 0,.int .i64 0,.int .i64 0,.int .i64 0] 80)).alloc (.cells #[.slice a g.length cap] 23)).heap[w1.heap.size]?=Option.some (.cells (fnA 8 (nrF some [])) 80 (0,0))∧((w1.alloc (.cells #[.int .i64 0,.int .i64 0,.int .i64 0,.int .i64 0,.int .i64 0,.int .i64 0,.int .i64 0,.int .i64 0] 80)).alloc (.cells #[.slice a g.length cap] 23)).heap[w1.heap.size+1]?=Option.some (.cells #[.slice a g.length cap] 23 (0,0))∧Below w1.heap.size w1 ((w1.alloc (.cells #[.int .i64 0,.int .i64 0,.int .i64 0,.int .i64 0,.int .i64 0,.int .i64 0,.int .i64 0,.int .i64 0] 80)).alloc (.cells #[.slice a g.length cap] 23)):=by
   obtain ⟨h0,h1,h2⟩:=alloc2_facts w1 (.cells #[.int .i64 0,.int .i64 0,.int .i64 0,.int .i64 0,.int .i64 0,.int .i64 0,.int .i64 0,.int .i64 0] 80 (0,0)) (.cells #[.slice a g.length cap] 23 (0,0))
   exact ⟨by rw [nrF_nil];exact h1,h2,h0⟩
 have hsz:w1.heap.size+1<((w1.alloc (.cells #[.int .i64 0,.int .i64 0,.int .i64 0,.int .i64 0,.int .i64 0,.int .i64 0,.int .i64 0,.int .i64 0] 80)).alloc (.cells #[.slice a g.length cap] 23)).heap.size:=lt_of_heap m1
 generalize ((w1.alloc (.cells #[.int .i64 0,.int .i64 0,.int .i64 0,.int .i64 0,.int .i64 0,.int .i64 0,.int .i64 0,.int .i64 0] 80)).alloc (.cells #[.slice a g.length cap] 23))=w2 at m0 m1 hb2 hsz ⊢
 have HM0:=Lib.hid m0
 have HM1:=Lib.hid m1
 have HB2:=Lib.hid hb2
 have HC1:=Lib.hid c1
 clear m0 m1 hb2 c1
 gi_wp2_with fail
 refine wpIn_rangeFunc_ownG rfl (by decide) (gf:=185) (lb:=#[.pointer (Option.some ⟨w1.heap.size+1,0,none⟩)]) rfl trivial (enters_of Tryz.func185 (by kernel_rfl) rfl)
   (edges_stops Fence.wide (3 - 1) trivial rfl (by decide) (w1.heap.size+1) w1.heap.size a g.length cap g items HG.out w1 w2 rfl HI1.out HB2.out (by rw [cell_of_block HM1.out];rfl)) Below.trans (fun W l o o' hl h h1 h2=>belowK_b (w:=w1) (Nat.le_refl _) W l o o' (by omega) h h1 h2) (Below.refl _ _) (fun _=>rfl)
   (fun pre W=>W.heap[w1.heap.size]?=Option.some (.cells (fnA 8 (nrF some pre)) 80 (0,0))∧Below w1.heap.size w1 W)
   (fun _ _ _=>False)
   (OwnFrom.and (own_heap _ _ _ _) (ownFrom_below (Nat.le_refl _) (by omega)))
   (fun _ _ _ _ _ hs _ _=>hs)
   ⟨HM0.out,HB2.out⟩
   (fun x=>{ tmps:=#[.slice a g.length cap,.int .i64 items,.slice sa some.length sc,undef,undef,.pointer (Option.some ⟨w.heap.size,0,none⟩),.slice none 0 0,.int .i64 0,.pointer (Option.some ⟨w1.heap.size,0,none⟩),.int .i64 (x.1.val:Int),.int .i64 (x.2.val:Int),undef,undef,.slice a g.length cap,.int .i64 items,.bool true,.bool false,.bool false,.slice sa some.length sc,.slice a g.length cap,.int .i64 g.length,.bool true,.bool false,.bool false,.slice a g.length cap,.func (.func 185) #[] #[.pointer (Option.some ⟨w1.heap.size+1,0,none⟩)],.int .i64 (x.1.val:Int),.int .i64 (x.2.val:Int),undef,undef,undef,undef,undef,undef,undef,undef,undef,undef,undef,undef,undef,undef,undef,undef,undef,undef,undef],defers:=[] }) ?assign ?body ?done ?stop
 case assign =>
   intro l x W K hK
   gi_wp2
   exact hK
 case body =>
   rintro l pre ⟨x,y⟩ W ⟨hc,hB⟩ hpl
   have k1:=cell_later hB HC1.out
   have HSW:=Lib.hid (HS1.out.below hB)
   have HCW:=Lib.hid hc
   have HBW:=Lib.hid hB
   clear hc hB
   dsimp only
   gi_wp2_with fail
   refine ⟨trivial,?_⟩
   refine (CallsIn.inRound l (callsIn_wide.2 (containsI_any (x.val:Int) sa some.length sc some W HSW.out))).mono ?_;rintro e w3 ⟨rfl,rfl⟩
   by_cases hx:(x.val:Int) ∈ some
   · have e1:decide ((x.val:Int) ∈ some)=true:=decide_eq_true hx
     have HX:Hid ((W.setCell ⟨w1.heap.size,y.val,none⟩ (.int .i64 1)).heap[w1.heap.size]?=Option.some (.cells (fnA 8 (nrF some (pre ++ [(x,y)]))) 80 (0,0))):=Lib.hid (by
       rw [heap_setCell_same _ w1.heap.size y.val _ _ _ HCW.out,fnA_set _ y.isLt,nrF_in hx])
     rw [e1]
     clear hx e1
     have c5:W.cell? ⟨w1.heap.size,y.val,none⟩=Option.some (.int .i64 (nrF some pre y.val)):=by rw [cell_of_block HCW.out];exact fnA_get _ y.isLt
     have c6:W.frozen? ⟨w1.heap.size,y.val,none⟩=false:=blk_free HCW.out
     have hy8:=y.isLt
     gi_wp2_with fail
     exact ⟨(KeepsOthers.setCell _ _ _).from _,(Below.refl w1.heap.size W).setCell (p:=⟨w1.heap.size,y.val,none⟩) (Nat.le_refl _) _,HX.out,HBW.out.setCell (p:=⟨w1.heap.size,y.val,none⟩) (Nat.le_refl _) _⟩
   · have e1:decide ((x.val:Int) ∈ some)=false:=decide_eq_false hx
     have HX:Hid (nrF some (pre ++ [(x,y)])=nrF some pre):=Lib.hid (nrF_out hx)
     rw [e1]
     clear hx e1
     gi_wp2_with fail
     exact ⟨(KeepsOthers.refl _).from _,Below.refl _ _,by rw [HX.out];exact HCW.out,HBW.out⟩
 case stop =>
   rintro D c pre W _ _ h _
   exact h.elim
 case done =>
   rintro D ys W hD rfl ⟨hc,hB⟩ hK
   have HCW:=Lib.hid hc
   have HBW:=Lib.hid hB
   obtain ⟨q0,q1,q2,q3,q4,q5,q6,q7⟩:=cells8 hc
   generalize hf:nrF some (edgK g g.length)=f at q0 q1 q2 q3 q4 q5 q6 q7
   have HF:=Lib.hid hf
   clear hc hB hf
   gi_wp2_with fail
   clear q0 q1 q2 q3 q4 q5 q6 q7
   have hix:=run_index8 f
   generalize f 0=f0 at hix ⊢
   generalize f 1=f1 at hix ⊢
   generalize f 2=f2 at hix ⊢
   generalize f 3=f3 at hix ⊢
   generalize f 4=f4 at hix ⊢
   generalize f 5=f5 at hix ⊢
   generalize f 6=f6 at hix ⊢
   generalize f 7=f7 at hix ⊢
   have HIX:=Lib.hid hix
   have HK:=Lib.hid hK
   have HD:=Lib.hid hD
   obtain ⟨i0,hi0,hz0,hz1,hz2⟩:=info_parts infoInt
   clear hix hK hD
   gi_loopw [6,34] (fun v i wr => ∃ (j:Nat) (b:Option Addr) (c:Nat),j≤8∧i=.int .i64 (j:Int)∧v=.slice b (setL f j).length c∧Hid (wr.ownsRow W.heap.size 3 1 (.slice b (setL f j).length c) (setL f j).length (icells (setL f j))∧Below W.heap.size W wr)) (fun _ i _=>8 - (intOf i).toNat)
   case atStart=>exact ⟨0,none,0,by decide,rfl,rfl,Lib.hid ⟨World.ownsRow_nil _ _ _ _,Below.refl _ _⟩⟩
   case round =>
     obtain ⟨j,b,c,hj,rfl,rfl,HO⟩:=hrel
     by_cases hlt:j<8
     · have hix:=HIX.out j hlt wr
       have hfx:Hid (setL f (j+1)=setL f j ++ if f j == 1 then [(j:Int)] else []):=Lib.hid (setL_succ f j)
       have hln:=setL_len f j
       cases hq:(f j == 1) with
       | false =>
         rw [hq] at hfx
         have HE:Hid (setL f (j+1)=setL f j):=Lib.hid (by rw [hfx.out];simp)
         generalize f j=fj at hix hq
         gi_wp2_with fail
         go_roundw
         case rel=>exact ⟨j+1,b,c,by omega,by go_num,by rw [HE.out],by rw [HE.out];exact HO⟩
         case measure=>simp [intOf];omega
       | true =>
         rw [hq] at hfx
         have HE:Hid (setL f (j+1)=setL f j ++ [(j:Int)]):=Lib.hid (by rw [hfx.out];simp)
         generalize f j=fj at hix hq
         have ho:=HO.out.1
         have hB:=HO.out.2
         have hbs:=HB2.out.size
         gi_wp2_with (gi_at_builtin
                      refine wpListIn_append_own _ rfl _ _ 22 rfl W.heap.size 3 i0 (.int .i64 0) 1 8 Tryz.underlying22 hi0 hz0 hz1 hz2 rfl (by decide) _ (setL f j).length (icells (setL f j)) rfl (ho.alloc _) ⟨wr.heap.size,0,none⟩ 1 1 [.int .i64 (j:Int)] rfl rfl (one_at wr _ _) (one_cell _ rfl) (by unfold maxLen;omega) (by omega) (by simp;exact Nat.le_trans hB.size (Nat.le_succ _)) ?_
                      intro v3 w3 ho3 hg3 _
                      obtain ⟨b3,c3,rfl⟩:=owns_shape ho3
                      have HO3:Hid (w3.ownsRow W.heap.size 3 1 (.slice b3 ((setL f j).length+1) c3) ((setL f j).length+1) (icells (setL f j ++ [(j:Int)]))∧Below W.heap.size W w3):=Lib.hid ⟨by rw [icells_append];exact ho3,(hB.alloc hB.size _).grown hg3 (by have:=hB.size;simp;omega) (fun k hk=>owns_base ho k hk)⟩
                      clear ho3 hg3)
         go_roundw
         case rel=>exact ⟨j+1,b3,c3,by omega,by go_num,by rw [HE.out];simp,by rw [HE.out];simpa using HO3⟩
         case measure=>simp [intOf];omega
     · obtain rfl:j=8:=by omega
       have hln:=setL_len f 8
       have hown:=HO.out.1
       have hI:=isI_of_owns hown rfl
       have h1:=hI.2.1
       have h2:=hI.2.2.1
       have h3:b=none→c=0:=fun e=>by
         rcases hown.2 with ⟨e2,_⟩ | ⟨g,cap,cur,e2,_⟩
         · exact (Value.slice.inj e2).2.2
         · rw [e] at e2;cases e2
       clear hown hI
       gi_wp2_with fail
       refine ⟨trivial,?_⟩
       refine (callsIn_wide.2 (iclip_any b (setL f 8).length c wr h1 h2 h3)).mono ?_;rintro e w3 ⟨rfl,rfl⟩
       gi_wp2_with fail
       have hK':=below_heap HO.out.2 HK.out (lt_of_heap HK.out)
       refine ⟨by simp,.inl ⟨_,_,rfl,run_takeDeferred hK',?_⟩⟩
       have hDD:=HD.out
       have hbb:=HB2.out.size
       have hbw:Below w1.heap.size w1 wr:=HBW.out.trans (HO.out.2.mono HBW.out.size)
       have hown:=ownsRow_putObj HO.out.1 (.deferred none) hK' rfl
       obtain ⟨hN1,hN2⟩:=near_law HG.out HR.out
       rw [HF.out] at hN1 hN2
       exact ⟨.tuple #[.slice b (setL f 8).length (setL f 8).length,.int .i64 0],by simp [results,Tryz.results115,go_sem],b,(setL f 8).length,setL f 8,rfl,HB1.out.trans ((hbw.trans (belowK_b (w:=w1) (Nat.le_refl _) wr D _ _ (by omega) hK' rfl rfl)).mono HB1.out.size),(isI_of_owns hown rfl).clip,hN1,hN2⟩
end
open Go.RowKit
set_option linter.unusedVariables false
set_option linter.unusedSimpArgs false
structure MtL (g:List (List Int)) (has:List Int):Prop where
 len:has.length=g.length
 ok:∀ i,i<g.length→has.getD i (-1) = -1∨has.getD i (-1) ∈ g.getD i []
 inj:∀ i j,i<g.length→j<g.length→has.getD i (-1)=has.getD j (-1)→has.getD i (-1)≠-1→i=j
theorem getD_get {α:Type} {l:List α} {d:α} {i:Nat} (h:i<l.length):l.getD i d=l[i]:=by simp [h]
def inF (l:List Int) (k:Nat):Int:=if (k:Int) ∈ l then 1 else 0
theorem inF_nil:inF []=fun _=>0:=by funext k;simp [inF]
theorem inF_none (l:List Int):inF (l ++ [-1])=inF l:=by
 funext k
 unfold inF
 have:¬ ((k:Int) = -1):=by omega
 simp [this]
theorem inF_snoc (l:List Int) (q:Nat):inF (l ++ [(q:Int)])=updF (inF l) q 1:=by
 funext k
 unfold inF updF
 by_cases h:k=q
 · simp [h]
 · have:¬ ((k:Int)=(q:Int)):=by omega
   simp [h,this]
theorem mem_take_get {l:List Int} {j:Nat} {z:Int} (h:z ∈ l.take j):∃ i,i<j∧∃ (hi:i<l.length),l[i]=z:=by
 obtain ⟨i,hi,e⟩:=List.getElem_of_mem h
 have h2:i<j∧i<l.length:=by rw [List.length_take] at hi;omega
 exact ⟨i,h2.1,h2.2,by rw [← e];simp⟩
set_option maxRecDepth 100000 in
set_option maxHeartbeats 4000000 in
theorem gfits_ok (a ha:Option Addr) (n c hn hc:Nat) (g:List (List Int)) (items:Nat) (has:List Int) (w:World) (h:IsII w a n c g) (hg:GOk g items) (hh:IsI w ha hn hc has) (hm:MtL g has) :
   Calls Tryz.prog 200 #[.slice a n c,.int .i64 items,.slice ha hn hc] w fun e w' => e=.returned (.bool true)∧Below w.heap.size w w':=by
 obtain rfl:=h.1
 obtain rfl:=hh.1
 have hln:=hm.len
 have h8:=hg.hn
 have hi8:=hg.hi
 have hle:has.length≤8:=by omega
 have d0:((has.length:Int) != (g.length:Int))=false:=by rw [bne_eq_false_iff_eq];omega
 have HI:=Lib.hid h
 have HG:=Lib.hid hg
 have HH:=Lib.hid hh
 have HM:=Lib.hid hm
 have HL:=Lib.hid hln
 clear h hg hh hm hln
 go_enter Tryz.func200,Tryz.ntmps200
 go_wp2_with fail
 refine (gcheck_ok a g.length c g items w HI.out HG.out).mono ?_;rintro e w1 ⟨rfl,hb1⟩
 have HB1:=Lib.hid hb1
 have HI1:=Lib.hid (HI.out.below hb1)
 have HH1:=Lib.hid (HH.out.below hb1)
 clear hb1
 go_wp2_with fail
 have hv:=heap_new w1 (.cells #[.int .i64 0,.int .i64 0,.int .i64 0,.int .i64 0,.int .i64 0,.int .i64 0,.int .i64 0,.int .i64 0] 80 (0,0))
 have hb2:Below w1.heap.size w1 (w1.alloc (.cells #[.int .i64 0,.int .i64 0,.int .i64 0,.int .i64 0,.int .i64 0,.int .i64 0,.int .i64 0,.int .i64 0] 80)):=(Below.refl _ _).alloc (Nat.le_refl _) _
 generalize (w1.alloc (.cells #[.int .i64 0,.int .i64 0,.int .i64 0,.int .i64 0,.int .i64 0,.int .i64 0,.int .i64 0,.int .i64 0] 80))=W at hv hb2 ⊢
 have HV:Hid (W.heap[w1.heap.size]?=some (.cells (fnA 8 (inF [])) 80 (0,0))):=Lib.hid (by rw [inF_nil];exact hv)
 have HB2:=Lib.hid hb2
 clear hv hb2
 go_loopw [23] (fun i wr => ∃ j:Nat,j≤has.length∧i=.int .i64 (j:Int)∧Hid (wr.heap[w1.heap.size]?=some (.cells (fnA 8 (inF (has.take j))) 80 (0,0))∧Below w1.heap.size w1 wr)) (fun i _=>has.length - (intOf i).toNat)
 case atStart=>exact ⟨0,Nat.zero_le _,rfl,Lib.hid ⟨HV.out,HB2.out⟩⟩
 case round =>
   obtain ⟨j,hj,rfl,HS⟩:=hrel
   by_cases hlt:j<has.length
   · obtain ⟨b,off,rfl,hblt,ck0⟩:=HH1.out.at j hlt
     have ck:wr.cell? ⟨b,off+j,none⟩=some (.int .i64 has[j]):=(HS.out.2.cell (p:=⟨b,off+j,none⟩) hblt).trans ck0
     have HT:Hid (has.take (j+1)=has.take j ++ [has[j]]):=Lib.hid (List.take_succ_eq_append_getElem hlt)
     have hjg:j<g.length:=by have:=HL.out;omega
     have HOK:Hid (has[j] = -1∨has[j] ∈ g.getD j []):=Lib.hid (by have:=HM.out.ok j hjg;rwa [getD_get hlt] at this)
     have HNI:Hid (has[j]≠-1→¬ has[j] ∈ has.take j):=Lib.hid (fun hne hmem=>by
       obtain ⟨i,hij,hi,e⟩:=mem_take_get hmem
       have:=HM.out.inj i j (by omega) hjg (by rw [getD_get hi,getD_get hlt,e]) (by rw [getD_get hi,e];exact hne)
       omega)
     clear ck0
     generalize has[j]=z at ck HT HOK HNI
     by_cases hz:z = -1
     · subst hz
       have HS2:Hid (wr.heap[w1.heap.size]?=some (.cells (fnA 8 (inF (has.take (j+1)))) 80 (0,0))∧Below w1.heap.size w1 wr):=Lib.hid ⟨by rw [HT.out,inF_none];exact HS.out.1,HS.out.2⟩
       clear HOK
       go_wp2_with fail
       go_roundw
       case rel=>exact ⟨j+1,by omega,by go_num,HS2⟩
       case measure=>simp [intOf];omega
     · have hzg:=HOK.out.resolve_left hz
       have hzr:=(HG.out.at j).2 z hzg
       obtain ⟨q,rfl⟩:=Int.eq_ofNat_of_zero_le hzr.1
       have hq8:q<8:=by omega
       obtain ⟨b2,off2,x,y,t,rfl,hb2,hc2,hI2⟩:=HI1.out.at j hjg
       have c2:wr.cell? ⟨b2,off2+j,none⟩=some (.slice x y t):=(HS.out.2.cell (p:=⟨b2,off2+j,none⟩) hb2).trans hc2
       have HI2:=Lib.hid (hI2.below HS.out.2)
       have HMEM:Hid (decide ((q:Int) ∈ g[j])=true):=Lib.hid (decide_eq_true (by rwa [getD_get hjg] at hzg))
       generalize g[j]=row at HI2 HMEM
       have HN2:=Lib.hid (HNI.out hz)
       have d1:((q:Int) == -1)=false:=by rw [beq_eq_false_iff_ne];exact hz
       have y0:wr.cell? ⟨w1.heap.size,q,none⟩=some (.int .i64 0):=by rw [cell_of_block HS.out.1,fnA_get _ hq8];unfold inF;rw [if_neg HN2.out]
       have y1:wr.frozen? ⟨w1.heap.size,q,none⟩=false:=blk_free HS.out.1
       have h9:=heap_setCell_same wr w1.heap.size q _ _ (.int .i64 1) HS.out.1
       rw [fnA_set _ hq8,← inF_snoc] at h9
       have HS2:Hid ((wr.setCell ⟨w1.heap.size,q,none⟩ (.int .i64 1)).heap[w1.heap.size]?=some (.cells (fnA 8 (inF (has.take (j+1)))) 80 (0,0))∧Below w1.heap.size w1 (wr.setCell ⟨w1.heap.size,q,none⟩ (.int .i64 1))):=Lib.hid ⟨by rw [HT.out];exact h9,HS.out.2.setCell (p:=⟨w1.heap.size,q,none⟩) (Nat.le_refl _) _⟩
       clear h9 hz hzg hzr HOK HNI hc2 hI2
       go_wp2_with fail
       refine (containsI_any (q:Int) x y t row wr HI2.out).mono ?_;rintro e w3 ⟨rfl,rfl⟩
       rw [HMEM.out]
       go_wp2_with fail
       go_roundw
       case rel=>exact ⟨j+1,by omega,by go_num,HS2⟩
       case measure=>simp [intOf];omega
   · have hjj:j=has.length:=by omega
     subst hjj
     go_wp2_with fail
     go_ret
     exact ⟨rfl,HB1.out.trans (HS.out.2.mono HB1.out.size)⟩
def srA (gv hv wv:Value) (by_ hd:Nat→Int):Array Value:=#[gv,hv,wv,.int .i64 (by_ 0),.int .i64 (by_ 1),.int .i64 (by_ 2),.int .i64 (by_ 3),.int .i64 (by_ 4),.int .i64 (by_ 5),.int .i64 (by_ 6),.int .i64 (by_ 7),.int .i64 (hd 0),.int .i64 (hd 1),.int .i64 (hd 2),.int .i64 (hd 3),.int .i64 (hd 4),.int .i64 (hd 5),.int .i64 (hd 6),.int .i64 (hd 7)]
theorem srA_by (gv hv wv:Value) (b h:Nat→Int):∀ k,k<8→(srA gv hv wv b h)[3+k]?=some (.int .i64 (b k))
 | 0,_=>rfl
 | 1,_=>rfl
 | 2,_=>rfl
 | 3,_=>rfl
 | 4,_=>rfl
 | 5,_=>rfl
 | 6,_=>rfl
 | 7,_=>rfl
 | k+8,h=>by omega
theorem srA_hd (gv hv wv:Value) (b h:Nat→Int):∀ k,k<8→(srA gv hv wv b h)[11+k]?=some (.int .i64 (h k))
 | 0,_=>rfl
 | 1,_=>rfl
 | 2,_=>rfl
 | 3,_=>rfl
 | 4,_=>rfl
 | 5,_=>rfl
 | 6,_=>rfl
 | 7,_=>rfl
 | k+8,h=>by omega
theorem srA_set_by (gv hv wv:Value) (b h:Nat→Int) (v:Int):∀ k,k<8→(srA gv hv wv b h).setIfInBounds (3+k) (.int .i64 v)=srA gv hv wv (updF b k v) h
 | 0,_=>rfl
 | 1,_=>rfl
 | 2,_=>rfl
 | 3,_=>rfl
 | 4,_=>rfl
 | 5,_=>rfl
 | 6,_=>rfl
 | 7,_=>rfl
 | k+8,h=>by omega
theorem srA_set_hd (gv hv wv:Value) (b h:Nat→Int) (v:Int):∀ k,k<8→(srA gv hv wv b h).setIfInBounds (11+k) (.int .i64 v)=srA gv hv wv b (updF h k v)
 | 0,_=>rfl
 | 1,_=>rfl
 | 2,_=>rfl
 | 3,_=>rfl
 | 4,_=>rfl
 | 5,_=>rfl
 | 6,_=>rfl
 | 7,_=>rfl
 | k+8,h=>by omega
theorem srA_set_w (gv hv wv v:Value) (b h:Nat→Int):(srA gv hv wv b h).setIfInBounds 2 v=srA gv hv v b h:=rfl
def RowI (w:World) (b:Nat) (l:List Int):Prop:=∃ C,w.heap[b]?=some (.cells C 3 (0,0))∧∀ i (h:i<l.length),C[i]?=some (.int .i64 l[i])
theorem RowI.lt {w:World} {b:Nat} {l:List Int} (h:RowI w b l):b<w.heap.size:=by obtain ⟨C,h1,_⟩:=h;exact lt_of_heap h1
theorem RowI.cell {w:World} {b:Nat} {l:List Int} (h:RowI w b l) (i:Nat) (hi:i<l.length):w.cell? ⟨b,i,none⟩=some (.int .i64 l[i]):=by obtain ⟨C,h1,h2⟩:=h;rw [cell_of_block h1];exact h2 i hi
theorem RowI.free {w:World} {b:Nat} {l:List Int} (h:RowI w b l) (i:Nat):w.frozen? ⟨b,i,none⟩=false:=by obtain ⟨C,h1,h2⟩:=h;exact blk_free h1
theorem RowI.below {w w':World} {b:Nat} {l:List Int} (h:RowI w b l) (hb:Below w.heap.size w w'):RowI w' b l:=by obtain ⟨C,h1,h2⟩:=h;exact ⟨C,below_heap hb h1 (lt_of_heap h1),h2⟩
theorem RowI.touch {S:Nat→Prop} {w w':World} {b:Nat} {l:List Int} (h:RowI w b l) (ht:Touch S w w') (hs:¬ S b):RowI w' b l:=by obtain ⟨C,h1,h2⟩:=h;exact ⟨C,ht.heap h1 hs,h2⟩
theorem RowI.other {w:World} {b:Nat} {l:List Int} (h:RowI w b l) (p:Addr) (v:Value) (hp:p.block≠b):RowI (w.setCell p v) b l:=by obtain ⟨C,h1,h2⟩:=h;exact ⟨C,(Below.heap_setCell _ _ _ _ (fun e=>hp e.symm)).trans h1,h2⟩
theorem RowI.set {w:World} {b:Nat} {l:List Int} (h:RowI w b l) (i:Nat) (hi:i<l.length) (v:Int):RowI (w.setCell ⟨b,i,none⟩ (.int .i64 v)) b (l.set i v):=by
 obtain ⟨C,h1,h2⟩:=h
 refine ⟨_,heap_setCell_same _ b i _ _ _ h1,fun j hj => ?_⟩
 have hj':j<l.length:=by simpa using hj
 have hC:=h2 j hj'
 have hjC:j<C.size:=(Array.getElem?_eq_some_iff.1 hC).1
 rw [Array.getElem?_setIfInBounds,List.getElem_set]
 by_cases e:i=j
 · subst e;simp [hjC]
 · simp [e,hC]
theorem RowI.isI {w:World} {b:Nat} {l:List Int} (h:RowI w b l) (c:Nat) (hc:l.length≤c) (hm:c≤maxLen):IsI w (some ⟨b,0,none⟩) l.length c l :=
 ⟨rfl,hc,hm,.inr ⟨b,0,rfl,h.lt,fun i hi=>by rw [Nat.zero_add];exact h.cell i hi⟩⟩
theorem RowI.of_owns {w:World} {base n:Nat} {a:Option Addr} {m c:Nat} {l:List Int} (h:w.ownsRow base 3 1 (.slice a m c) n (icells l)) (hl:l≠[]):∃ b,a=some ⟨b,0,none⟩∧base≤b∧RowI w b l:=by
 have hlen:=h.1
 rcases h.2 with ⟨hv,h0⟩ | ⟨g,cap,cur,hv,hb,hg,hnc,hcm,hcs,htk⟩
 · exact absurd (List.eq_nil_of_length_eq_zero (by simp [icells] at hlen;omega)) hl
 · cases hv
   refine ⟨g,rfl,hb,cur,hg,fun i hi => ?_⟩
   have:=h.cells (g:=g) rfl i (.int .i64 l[i]) (icells_get l i hi)
   rw [addr_add,Nat.zero_add,cell_of_block hg] at this
   exact this
set_option maxRecDepth 100000 in
set_option maxHeartbeats 4000000 in
theorem begin_no (a ha:Option Addr) (n c hn hc:Nat) (g:List (List Int)) (items:Nat) (has:List Int) (fr:Nat) (w:World) (h:IsII w a n c g) (hg:GOk g items) (hh:IsI w ha hn hc has) (hm:MtL g has) (hf:fr<g.length) (hno:has.getD fr (-1)≠-1) :
   Calls Tryz.prog 192 #[.slice a n c,.int .i64 items,.slice ha hn hc,.int .i64 fr] w fun e w' => e=.returned (.tuple #[.pointer none,.int .i64 1])∧Below w.heap.size w w':=by
 obtain rfl:=h.1
 obtain rfl:=hh.1
 have h8:=hg.hn
 have hfl:fr<has.length:=by have:=hm.len;omega
 rw [getD_get hfl] at hno
 have HI:=Lib.hid h
 have HG:=Lib.hid hg
 have HH:=Lib.hid hh
 have HM:=Lib.hid hm
 clear h hg hh hm
 have d1:decide ((fr:Int)<0)=false:=decide_eq_false (by omega)
 have d2:decide ((g.length:Int)≤(fr:Int))=false:=decide_eq_false (by omega)
 have d3:decide (g.length≤fr)=false:=decide_eq_false (by omega)
 go_enter Tryz.func192,Tryz.ntmps192
 go_wp2_with fail
 refine (gfits_ok a ha g.length c has.length hc g items has w HI.out HG.out HH.out HM.out).mono ?_;rintro e w1 ⟨rfl,hb1⟩
 have HB1:=Lib.hid hb1
 obtain ⟨b,off,rfl,hblt,ck⟩:=(HH.out.below hb1).at fr hfl
 have d4:(has[fr] != -1)=true:=by rw [bne_iff_ne];exact hno
 clear hb1 hno
 generalize has[fr]=z at ck d4
 go_wp2_with fail
 go_ret2
 exact ⟨rfl,HB1.out⟩
structure SrI (w:World) (B sb:Nat) (gv:Value) (hb:Nat) (has:List Int) (wv:Value) (ws:List Int) (by_ hd:Nat→Int):Prop where
 blk:w.heap[sb]?=some (.cells (srA gv (.slice (some ⟨hb,0,none⟩) has.length has.length) wv by_ hd) 220 (0,0))
 row:RowI w hb has
 own:w.ownsRow B 3 1 wv ws.length (icells ws)
 nh:wv.ownBlock≠some hb
 lo:B≤sb∧B≤hb
theorem SrI.hs {w:World} {B sb:Nat} {gv:Value} {hb:Nat} {has:List Int} {wv:Value} {ws:List Int} {by_ hd:Nat→Int} (h:SrI w B sb gv hb has wv ws by_ hd):hb≠sb:=fun e=>by
 obtain ⟨C,h1,_⟩:=h.row
 have h2:=h.blk
 rw [← e,h1] at h2
 exact absurd (Obj.cells.inj (Option.some.inj h2)).2.1 (by decide)
theorem SrI.ns {w:World} {B sb:Nat} {gv:Value} {hb:Nat} {has:List Int} {wv:Value} {ws:List Int} {by_ hd:Nat→Int} (h:SrI w B sb gv hb has wv ws by_ hd):wv.ownBlock≠some sb:=fun e=>by
 obtain ⟨cur,h1⟩:=owns_block h.own e
 have h2:=h.blk
 rw [h1] at h2
 exact absurd (Obj.cells.inj (Option.some.inj h2)).2.1 (by decide)
def HdI (l:List Int) (j:Nat) (hd:Nat→Int):Prop:=∀ k:Nat,k<8→(hd k=0∧¬ (k:Int) ∈ l.take j)∨∃ i:Nat,i<j∧i<l.length∧l.getD i (-1)=(k:Int)∧hd k=(i:Int)+1
theorem HdI.zero (l:List Int):HdI l 0 (fun _=>0):=fun k _=>.inl ⟨rfl,by simp⟩
theorem HdI.none {l:List Int} {j:Nat} {hd:Nat→Int} (h:HdI l j hd) (hj:j<l.length) (e:l[j] = -1):HdI l (j+1) hd:=fun k hk=>by
 rcases h k hk with ⟨h1,h2⟩ | ⟨i,h1,h2,h3,h4⟩
 · refine .inl ⟨h1,fun hm => ?_⟩
   rw [List.take_succ_eq_append_getElem hj,e] at hm
   rcases List.mem_append.1 hm with hm | hm
   · exact h2 hm
   · have:=List.mem_singleton.1 hm;omega
 · exact .inr ⟨i,by omega,h2,h3,h4⟩
theorem HdI.step {l:List Int} {j q:Nat} {hd:Nat→Int} (h:HdI l j hd) (hj:j<l.length) (e:l[j]=(q:Int)):HdI l (j+1) (updF hd q ((j:Int)+1)):=fun k hk=>by
 by_cases hkq:k=q
 · subst hkq
   exact .inr ⟨j,by omega,hj,by rw [getD_get hj,e],updF_same _ _ _⟩
 · rw [updF_ne _ _ hkq]
   rcases h k hk with ⟨h1,h2⟩ | ⟨i,h1,h2,h3,h4⟩
   · refine .inl ⟨h1,fun hm => ?_⟩
     rw [List.take_succ_eq_append_getElem hj,e] at hm
     rcases List.mem_append.1 hm with hm | hm
     · exact h2 hm
     · have:=List.mem_singleton.1 hm;omega
   · exact .inr ⟨i,by omega,h2,h3,h4⟩
set_option maxRecDepth 100000 in
set_option maxHeartbeats 8000000 in
theorem begin_ok (a ha:Option Addr) (n c hn hc:Nat) (g:List (List Int)) (items:Nat) (has:List Int) (fr:Nat) (w:World) (h:IsII w a n c g) (hg:GOk g items) (hh:IsI w ha hn hc has) (hm:MtL g has) (hf:fr<g.length) (hno:has.getD fr (-1) = -1) :
   Calls Tryz.prog 192 #[.slice a n c,.int .i64 items,.slice ha hn hc,.int .i64 fr] w fun e w' => ∃ sb hb wv hd,e=.returned (.tuple #[.pointer (some ⟨sb,0,none⟩),.int .i64 0])∧Below w.heap.size w w'∧SrI w' w.heap.size sb (.slice a n c) hb has wv [(fr:Int)] (fun _=>0) hd∧HdI has has.length hd:=by
 obtain rfl:=h.1
 obtain rfl:=hh.1
 have h8:=hg.hn
 have hln:=hm.len
 have hfl:fr<has.length:=by omega
 have hl8:has.length≤8:=by omega
 rw [getD_get hfl] at hno
 have HI:=Lib.hid h
 have HG:=Lib.hid hg
 have HH:=Lib.hid hh
 have HM:=Lib.hid hm
 have HLN:=Lib.hid hln
 clear h hg hh hm hln
 have d1:decide ((fr:Int)<0)=false:=decide_eq_false (by omega)
 have d2:decide ((g.length:Int)≤(fr:Int))=false:=decide_eq_false (by omega)
 have d3:decide (g.length≤fr)=false:=decide_eq_false (by omega)
 go_enter Tryz.func192,Tryz.ntmps192
 go_wp2_with fail
 refine (gfits_ok a ha g.length c has.length hc g items has w HI.out HG.out HH.out HM.out).mono ?_;rintro e w1 ⟨rfl,hb1⟩
 have HB1:=Lib.hid hb1
 have HH1:=Lib.hid (HH.out.below hb1)
 obtain ⟨b,off,rfl,hblt,ck⟩:=HH1.out.at fr hfl
 have d4:(has[fr] != -1)=false:=by rw [hno];rfl
 have HNO:=Lib.hid hno
 clear hb1 hno
 generalize has[fr]=z at ck d4
 go_wp2_with fail
 refine (iclone_any _ _ _ has w1 HH1.out (by omega)).mono ?_;rintro e w2 ⟨a2,c2,rfl,hb2,hown2⟩
 obtain ⟨k1,k2,k3⟩:=owns_caps hown2
 obtain ⟨hb,rfl,hbb,hrow⟩:=RowI.of_owns hown2 (fun e=>by rw [e] at hfl;simp at hfl)
 have HB2:=Lib.hid (HB1.out.trans (hb2.mono HB1.out.size))
 have HH2:=Lib.hid (HH1.out.below hb2)
 have HROW:=Lib.hid hrow
 have HBB:=Lib.hid hbb
 clear hb2 hown2 hrow hbb ck hblt
 go_wp2_with fail
 refine (iclip_any _ _ c2 w2 k1 k2 k3).mono ?_;rintro e w3 ⟨rfl,rfl⟩
 go_wp2_with fail
 obtain ⟨hb3,m0,m1⟩:=alloc2_facts w2 (.cells #[.int .i64 (fr:Int)] 3 (0,0)) (.cells (srA (.slice a g.length c) (.slice (some ⟨hb,0,none⟩) has.length has.length) (.slice (some ⟨w2.heap.size,0,none⟩) 1 1) (fun _=>0) (fun _=>0)) 220 (0,0))
 unfold srA at hb3 m0 m1
 generalize ((w2.alloc (.cells #[.int .i64 (fr:Int)] 3)).alloc (.cells #[.slice a g.length c,.slice (some ⟨hb,0,none⟩) has.length has.length,.slice (some ⟨w2.heap.size,0,none⟩) 1 1,.int .i64 0,.int .i64 0,.int .i64 0,.int .i64 0,.int .i64 0,.int .i64 0,.int .i64 0,.int .i64 0,.int .i64 0,.int .i64 0,.int .i64 0,.int .i64 0,.int .i64 0,.int .i64 0,.int .i64 0,.int .i64 0] 220))=W at hb3 m0 m1 ⊢
 have HSR:Hid (SrI W w.heap.size (w2.heap.size+1) (.slice a g.length c) hb has (.slice (some ⟨w2.heap.size,0,none⟩) 1 1) [(fr:Int)] (fun _=>0) (fun _=>0)):=Lib.hid ⟨m1,HROW.out.below hb3,⟨rfl,.inr ⟨w2.heap.size,1,_,rfl,HB2.out.size,m0,Nat.le_refl _,by decide,rfl,rfl⟩⟩,(fun e=>by
   have:=HROW.out.lt
   have e2:w2.heap.size=hb:=Option.some.inj e
   omega),⟨Nat.le_succ_of_le HB2.out.size,Nat.le_trans HB1.out.size HBB.out⟩⟩
 have HB3:=Lib.hid (HB2.out.trans (hb3.mono HB2.out.size))
 clear m0 m1 hb3 HB2 HH2 HH1 HROW HB1
 go_loopw [45] (fun i wr => ∃ j:Nat,j≤has.length∧i=.int .i64 (j:Int)∧Hid (∃ hd,SrI wr w.heap.size (w2.heap.size+1) (.slice a g.length c) hb has (.slice (some ⟨w2.heap.size,0,none⟩) 1 1) [(fr:Int)] (fun _=>0) hd∧HdI has j hd∧Below w.heap.size w wr)) (fun i _=>has.length - (intOf i).toNat)
 case atStart=>exact ⟨0,Nat.zero_le _,rfl,Lib.hid ⟨_,HSR.out,HdI.zero _,HB3.out⟩⟩
 case round =>
   clear HSR HB3
   obtain ⟨j,hj,rfl,HS⟩:=hrel
   obtain ⟨hd,hsr,hhd,hbel⟩:=HS.out
   have hisI:=HH.out.below hbel
   clear HS
   by_cases hlt:j<has.length
   · obtain ⟨b',off',e0,hblt,ck⟩:=hisI.at j hlt
     cases e0
     have HOK:Hid (has[j] = -1∨has[j] ∈ g.getD j []):=Lib.hid (by have:=HM.out.ok j (by have:=HLN.out;omega);rwa [getD_get hlt] at this)
     by_cases hz:has[j] = -1
     · have HS2:Hid (∃ hd,SrI wr w.heap.size (w2.heap.size+1) (.slice a g.length c) hb has (.slice (some ⟨w2.heap.size,0,none⟩) 1 1) [(fr:Int)] (fun _=>0) hd∧HdI has (j+1) hd∧Below w.heap.size w wr):=Lib.hid ⟨hd,hsr,hhd.none hlt hz,hbel⟩
       rw [hz] at ck
       clear hsr hhd hbel hisI hz HOK
       go_wp2_with fail
       go_roundw
       case rel=>exact ⟨j+1,by omega,by go_num,HS2⟩
       case measure=>simp [intOf];omega
     · have hzr:=(HG.out.at j).2 _ (HOK.out.resolve_left hz)
       obtain ⟨q,hq⟩:=Int.eq_ofNat_of_zero_le hzr.1
       have hq8:q<8:=by have:=HG.out.hi;omega
       have h9:=heap_setCell_same wr (w2.heap.size+1) (11+q) _ _ (.int .i64 ((j:Int)+1)) hsr.blk
       rw [srA_set_hd _ _ _ _ _ _ q hq8] at h9
       have hB1:Below w.heap.size w (wr.setCell ⟨w2.heap.size+1,11+q,none⟩ (.int .i64 ((j:Int)+1))):=hbel.setCell hsr.lo.1 _
       have HS2:Hid (∃ hd,SrI (wr.setCell ⟨w2.heap.size+1,11+q,none⟩ (.int .i64 ((j:Int)+1))) w.heap.size (w2.heap.size+1) (.slice a g.length c) hb has (.slice (some ⟨w2.heap.size,0,none⟩) 1 1) [(fr:Int)] (fun _=>0) hd∧HdI has (j+1) hd∧Below w.heap.size w (wr.setCell ⟨w2.heap.size+1,11+q,none⟩ (.int .i64 ((j:Int)+1)))):=Lib.hid ⟨_,⟨h9,hsr.row.other _ _ (fun e=>hsr.hs e.symm),owns_touch hsr.own (touch_set wr (w2.heap.size+1) (11+q) _) (fun k hk e=>hsr.ns (by rw [hk,e])),hsr.nh,hsr.lo⟩,hhd.step hlt hq,hB1⟩
       have y0:wr.cell? ⟨w2.heap.size+1,11+q,none⟩=some (.int .i64 (hd q)):=by rw [cell_of_block hsr.blk];exact srA_hd _ _ _ _ _ q hq8
       have y1:wr.frozen? ⟨w2.heap.size+1,11+q,none⟩=false:=blk_free hsr.blk
       have d5:((q:Int) != -1)=true:=by rw [bne_iff_ne];omega
       rw [hq] at ck
       clear hsr hhd hbel hisI hz HOK h9 hB1
       go_wp2_with fail
       go_roundw
       case rel=>exact ⟨j+1,by omega,by go_num,HS2⟩
       case measure=>simp [intOf];omega
   · have hjj:j=has.length:=by omega
     subst hjj
     have HR:Hid (∃ sb hb wv hd,some (⟨w2.heap.size+1,0,none⟩:Addr)=some ⟨sb,0,none⟩∧Below w.heap.size w wr∧SrI wr w.heap.size sb (.slice a g.length c) hb has wv [(fr:Int)] (fun _=>0) hd∧HdI has has.length hd):=Lib.hid ⟨_,_,_,_,rfl,hbel,hsr,hhd⟩
     clear hsr hhd hbel hisI
     go_wp2_with fail
     go_ret2
     obtain ⟨sb,hb,wv,hd,e,h2,h3,h4⟩:=HR.out
     exact ⟨sb,hb,wv,hd,by rw [← e];rfl,h2,h3,h4⟩
end Go.Proofs.YtmmmjohoihpbeaaGreat
