/- The lives of layer 28's statements;conditions: none. -/
import Derived.Test.YtmmmjohoihpbeaaGreatRJwTu
import Derived.Test.YtmmmjohoihpbeaaGreatRJwNoJwTrJwLsJwPdJwLe
import Derived.Test.YtmmmjohoihpbeaaGreatRMChkJwAr
import Derived.Test.YtmmmjohoihpbeaaGreatRGOpened
namespace Go.Proofs.YtmmmjohoihpbeaaGreat
section
open Go.RowKit Go.Shelf
set_option linter.unusedVariables false
set_option linter.unusedSimpArgs false
attribute [local go_sem] Oper.semAt_some
def lvM:MkC:=⟨[2],[[9],[5]],[0,1]⟩
theorem lvM_ok:mktB lvM=true:=by decide
theorem lv_best:bestV 2 1 (fun x y=>if x=0 then -1 else JM.gn [2] [[9],[5]] x y)=3:=by
 rw [← bestV_of (best_mx (n:=2) (K:=1) (by decide))]
 decide +kernel
theorem lv_not:¬ LeastC [2] [[9],[5]] [0,-1] [9]:=fun h=>by
 have h0:JM.mo [0,-1] 0=some 0:=by decide
 have h1:=h.pd.sold 0 0 (by decide) h0 _ (bestV_is _ _ _)
 have h2:sumV [2] [[9],[5]] [0,-1]=7:=by decide
 have h3:JM.gn [2] [[9],[5]] 0 0=7:=by decide
 rw [h2,h3] at h1
 have h4:bestV ([[9],[5]]:List (List Int)).length ([2]:List Int).length (fun x y=>if x=0 then -1 else JM.gn [2] [[9],[5]] x y)=3:=lv_best
 rw [h4] at h1
 simp at h1
theorem lv_t1:TruC lvM 0 [1]:=by unfold TruC;decide +kernel
theorem lv_t2:TruC lvM 1 [20]:=by unfold TruC;decide +kernel
theorem lv_t3:¬ TruC lvM 2 []:=by unfold TruC;decide +kernel
theorem alloc6_facts (w:World) (o0 o1 o2 o3 o4 o5:Obj):Below w.heap.size w ((((((w.alloc o0).alloc o1).alloc o2).alloc o3).alloc o4).alloc o5)∧((((((w.alloc o0).alloc o1).alloc o2).alloc o3).alloc o4).alloc o5).heap[w.heap.size]?=some o0∧((((((w.alloc o0).alloc o1).alloc o2).alloc o3).alloc o4).alloc o5).heap[w.heap.size+1]?=some o1∧((((((w.alloc o0).alloc o1).alloc o2).alloc o3).alloc o4).alloc o5).heap[w.heap.size+1+1]?=some o2∧((((((w.alloc o0).alloc o1).alloc o2).alloc o3).alloc o4).alloc o5).heap[w.heap.size+1+1+1]?=some o3∧((((((w.alloc o0).alloc o1).alloc o2).alloc o3).alloc o4).alloc o5).heap[w.heap.size+1+1+1+1]?=some o4∧((((((w.alloc o0).alloc o1).alloc o2).alloc o3).alloc o4).alloc o5).heap[w.heap.size+1+1+1+1+1]?=some o5:=by
 obtain ⟨a0,a1,a2⟩:=alloc2_facts w o0 o1
 obtain ⟨b0,b1,b2⟩:=alloc2_facts ((w.alloc o0).alloc o1) o2 o3
 obtain ⟨c0,c1,c2⟩:=alloc2_facts ((((w.alloc o0).alloc o1).alloc o2).alloc o3) o4 o5
 have s1:((w.alloc o0).alloc o1).heap.size=w.heap.size+1+1:=by simp
 have s2:((((w.alloc o0).alloc o1).alloc o2).alloc o3).heap.size=w.heap.size+1+1+1+1:=by simp
 rw [s1] at b1 b2
 rw [s2] at c1 c2
 exact ⟨a0.trans ((b0.mono a0.size).trans (c0.mono (Nat.le_trans a0.size b0.size))),below_heap c0 (below_heap b0 a1 (lt_of_heap a1)) (lt_of_heap (below_heap b0 a1 (lt_of_heap a1))),below_heap c0 (below_heap b0 a2 (lt_of_heap a2)) (lt_of_heap (below_heap b0 a2 (lt_of_heap a2))),below_heap c0 b1 (lt_of_heap b1),below_heap c0 b2 (lt_of_heap b2),c1,c2⟩
theorem isI_blk {w:World} {b:Nat} {l:List Int} {t:TypeId} {fz:Nat × Nat} (h:w.heap[b]?=some (.cells (icells l).toArray t fz)) (hm:l.length≤maxLen):IsI w (some ⟨b,0,none⟩) l.length l.length l:=by
 refine ⟨rfl,Nat.le_refl _,hm,.inr ⟨b,0,rfl,lt_of_heap h,fun i hi => ?_⟩⟩
 rw [cell_of_block h,Nat.zero_add,List.getElem?_toArray]
 simp [icells,hi]
theorem lv_mkt {w:World} {n:Nat} {f0 f1 f2 f3 f4:Nat × Nat} (h0:w.heap[n]?=some (.cells #[.int .i64 2] 3 f0)) (h1:w.heap[n+1]?=some (.cells #[.int .i64 9] 3 f1)) (h2:w.heap[n+1+1]?=some (.cells #[.int .i64 5] 3 f2)) (h3:w.heap[n+1+1+1]?=some (.cells #[.slice (some ⟨n+1,0,none⟩) 1 1,.slice (some ⟨n+1+1,0,none⟩) 1 1] 22 f3)) (h4:w.heap[n+1+1+1+1]?=some (.cells #[.int .i64 0,.int .i64 1] 3 f4)) :
   MkT w ⟨some ⟨n,0,none⟩,1,1,some ⟨n+1+1+1,0,none⟩,2,2,[.slice (some ⟨n+1,0,none⟩) 1 1,.slice (some ⟨n+1+1,0,none⟩) 1 1],some ⟨n+1+1+1+1,0,none⟩,2,2⟩ lvM:=by
 have i0:IsI w (some ⟨n,0,none⟩) 1 1 [2]:=isI_blk (l:=[2]) h0 (by decide)
 have i1:IsI w (some ⟨n+1,0,none⟩) 1 1 [9]:=isI_blk (l:=[9]) h1 (by decide)
 have i2:IsI w (some ⟨n+1+1,0,none⟩) 1 1 [5]:=isI_blk (l:=[5]) h2 (by decide)
 have i4:IsI w (some ⟨n+1+1+1+1,0,none⟩) 2 2 [0,1]:=isI_blk (l:=[0,1]) h4 (by decide)
 refine ⟨⟨⟨i0,fun _ _ _ _=>trivial⟩,⟨rfl,Nat.le_refl _,(by decide:(2:Nat)≤maxLen),⟨rfl,fun i hi => ?_⟩,.inr ⟨_,0,rfl,trivial,lt_of_heap h3,fun i hi => ?_⟩⟩,⟨i4,fun _ _ _ _=>trivial⟩⟩,lvM_ok⟩
 · match i,hi with
   | 0,_=>exact ⟨_,_,_,rfl,i1,fun _ _ _ _=>trivial⟩
   | 1,_=>exact ⟨_,_,_,rfl,i2,fun _ _ _ _=>trivial⟩
 · rw [cell_of_block h3,Nat.zero_add]
   match i,hi with
   | 0,_=>rfl
   | 1,_=>rfl
theorem fine_nil (w:World):Calls Tryz.prog 24 #[.pointer none] w fun e w' => e=.returned (.bool false)∧Below w.heap.size w w':=by
 go_enter Tryz.func24,Tryz.ntmps24
 go_wp2_with fail
 go_ret
 exact ⟨rfl,Below.refl _ _⟩
set_option maxRecDepth 100000 in
set_option maxHeartbeats 8000000 in
theorem lives_any (w:World) :
   Calls Tryz.prog 8 #[] w fun e w' => e=.returned (.bool true)∧Below w.heap.size w w':=by
 obtain ⟨hb,h0,h1,h2,h3,h4,h5⟩:=alloc6_facts w (.cells #[.int .i64 2] 3 (0,0)) (.cells #[.int .i64 9] 3 (0,0)) (.cells #[.int .i64 5] 3 (0,0)) (.cells #[.slice (some ⟨w.heap.size+1,0,none⟩) 1 1,.slice (some ⟨w.heap.size+1+1,0,none⟩) 1 1] 22 (0,0)) (.cells #[.int .i64 0,.int .i64 1] 3 (0,0)) (.cells #[.slice (some ⟨w.heap.size,0,none⟩) 1 1,.slice (some ⟨w.heap.size+1+1+1,0,none⟩) 2 2,.slice (some ⟨w.heap.size+1+1+1+1,0,none⟩) 2 2] 25 (0,0))
 go_enter Tryz.func8,Tryz.ntmps8
 go_wp2_with fail
 generalize ((((((w.alloc (.cells #[.int .i64 2] 3 (0,0))).alloc (.cells #[.int .i64 9] 3 (0,0))).alloc (.cells #[.int .i64 5] 3 (0,0))).alloc (.cells #[.slice (some ⟨w.heap.size+1,0,none⟩) 1 1,.slice (some ⟨w.heap.size+1+1,0,none⟩) 1 1] 22 (0,0))).alloc (.cells #[.int .i64 0,.int .i64 1] 3 (0,0))).alloc (.cells #[.slice (some ⟨w.heap.size,0,none⟩) 1 1,.slice (some ⟨w.heap.size+1+1+1,0,none⟩) 2 2,.slice (some ⟨w.heap.size+1+1+1+1,0,none⟩) 2 2] 25 (0,0)))=W at hb h0 h1 h2 h3 h4 h5 ⊢
 have HMT:=Lib.hid (lv_mkt h0 h1 h2 h3 h4)
 have HB0:=Lib.hid hb
 have HC:Hid (∀ W',Below W.heap.size W W'→W'.cell? ⟨w.heap.size+1+1+1+1+1,0,none⟩=some (.slice (some ⟨w.heap.size,0,none⟩) 1 1)∧W'.cell? ⟨w.heap.size+1+1+1+1+1,1,none⟩=some (.slice (some ⟨w.heap.size+1+1+1,0,none⟩) 2 2)∧W'.cell? ⟨w.heap.size+1+1+1+1+1,2,none⟩=some (.slice (some ⟨w.heap.size+1+1+1+1,0,none⟩) 2 2)):=Lib.hid (fun W' hW=>by
   have:=below_heap hW h5 (lt_of_heap h5)
   refine ⟨?_,?_,?_⟩ <;> (rw [cell_of_block this];rfl))
 clear hb h0 h1 h2 h3 h4 h5
 refine (outOf_any ⟨some ⟨w.heap.size,0,none⟩,1,1,some ⟨w.heap.size+1+1+1,0,none⟩,2,2,[.slice (some ⟨w.heap.size+1,0,none⟩) 1 1,.slice (some ⟨w.heap.size+1+1,0,none⟩) 1 1],some ⟨w.heap.size+1+1+1+1,0,none⟩,2,2⟩ lvM W HMT.out).mono ?_
 rintro e w1 ⟨ha,hc,pa,pc,has,P,rfl,hb1,hh1,hp1,hok⟩
 have hl1:lvM.b.length=2:=rfl
 have hl2:lvM.r.length=1:=rfl
 rw [hl1] at hh1 ⊢
 rw [hl2] at hp1 ⊢
 clear hl1 hl2
 have hbA:Below w1.heap.size w1 (w1.alloc (.cells #[.slice ha 2 hc,.slice pa 1 pc] 27 (0,0))):=(Below.refl _ _).alloc (Nat.le_refl _) _
 obtain ⟨k0,k1,k2⟩:=HC.out _ (hb1.trans (hbA.mono hb1.size))
 obtain ⟨hbB,hvA,hvB⟩:=alloc2_facts w1 (.cells #[.slice ha 2 hc,.slice pa 1 pc] 27 (0,0)) (.cells #[.int .i64 1] 3 (0,0))
 have HB2:Hid (Below W.heap.size W ((w1.alloc (.cells #[.slice ha 2 hc,.slice pa 1 pc] 27 (0,0))).alloc (.cells #[.int .i64 1] 3 (0,0)))):=Lib.hid (hb1.trans (hbB.mono hb1.size))
 have HH2:=Lib.hid (hh1.below hbB)
 have HP2:=Lib.hid (hp1.below hbB)
 have HOK:=Lib.hid hok
 have HIB:Hid (IsI ((w1.alloc (.cells #[.slice ha 2 hc,.slice pa 1 pc] 27 (0,0))).alloc (.cells #[.int .i64 1] 3 (0,0))) (some ⟨w1.heap.size+1,0,none⟩) 1 1 [1]):=Lib.hid (isI_blk (l:=[1]) hvB (by decide))
 have HOC:Hid (∀ W',Below ((w1.alloc (.cells #[.slice ha 2 hc,.slice pa 1 pc] 27 (0,0))).alloc (.cells #[.int .i64 1] 3 (0,0))).heap.size ((w1.alloc (.cells #[.slice ha 2 hc,.slice pa 1 pc] 27 (0,0))).alloc (.cells #[.int .i64 1] 3 (0,0))) W'→W'.cell? ⟨w1.heap.size,0,none⟩=some (.slice ha 2 hc)∧W'.cell? ⟨w1.heap.size,1,none⟩=some (.slice pa 1 pc)):=Lib.hid (fun W' hW=>by
   have:=below_heap hW hvA (lt_of_heap hvA)
   refine ⟨?_,?_⟩ <;> (rw [cell_of_block this];rfl))
 clear hb1 hh1 hp1 hok hbA hbB hvA hvB
 go_wp2_with fail
 clear k0 k1 k2
 generalize ((w1.alloc (.cells #[.slice ha 2 hc,.slice pa 1 pc] 27 (0,0))).alloc (.cells #[.int .i64 1] 3 (0,0)))=w2 at HB2 HH2 HP2 HIB HOC ⊢
 obtain ⟨ob,hob⟩:∃ ob,w1.heap.size=ob:=⟨_,rfl⟩
 rw [hob] at HIB HOC ⊢
 clear hob
 refine (true_any ⟨some ⟨w.heap.size,0,none⟩,1,1,some ⟨w.heap.size+1+1+1,0,none⟩,2,2,[.slice (some ⟨w.heap.size+1,0,none⟩) 1 1,.slice (some ⟨w.heap.size+1+1,0,none⟩) 1 1],some ⟨w.heap.size+1+1+1+1,0,none⟩,2,2⟩ lvM 0 (some ⟨ob+1,0,none⟩) 1 1 [1] w2 (HMT.out.below HB2.out).v (by decide) (by decide) HIB.out).mono ?_
 rintro e w3 ⟨v,rfl,hv,hb3⟩
 have hvt:v=true:=hv.2 lv_t1
 subst hvt
 have HB3:Hid (Below w2.heap.size w2 w3):=Lib.hid hb3
 obtain ⟨l0,l1,l2⟩:=HC.out _ (HB2.out.trans (HB3.out.mono HB2.out.size))
 clear hv hb3
 go_wp2_with fail
 have hbB:Below w3.heap.size w3 (w3.alloc (.cells #[.int .i64 20] 3 (0,0))):=(Below.refl _ _).alloc (Nat.le_refl _) _
 have hvB:=heap_new w3 (.cells #[.int .i64 20] 3 (0,0))
 have hiB:IsI (w3.alloc (.cells #[.int .i64 20] 3 (0,0))) (some ⟨w3.heap.size,0,none⟩) 1 1 [20]:=isI_blk (l:=[20]) hvB (by decide)
 refine (true_any ⟨some ⟨w.heap.size,0,none⟩,1,1,some ⟨w.heap.size+1+1+1,0,none⟩,2,2,[.slice (some ⟨w.heap.size+1,0,none⟩) 1 1,.slice (some ⟨w.heap.size+1+1,0,none⟩) 1 1],some ⟨w.heap.size+1+1+1+1,0,none⟩,2,2⟩ lvM 1 (some ⟨w3.heap.size,0,none⟩) 1 1 [20] _ (HMT.out.below (HB2.out.trans ((HB3.out.trans (hbB.mono HB3.out.size)).mono HB2.out.size))).v (by decide) (by decide) hiB).mono ?_
 rintro e w4 ⟨v,rfl,hv,hb4⟩
 have hvt:v=true:=hv.2 lv_t2
 subst hvt
 have HB4:Hid (Below w2.heap.size w2 w4):=Lib.hid (HB3.out.trans ((hbB.trans (hb4.mono hbB.size)).mono HB3.out.size))
 obtain ⟨k0,k1,k2⟩:=HC.out _ (HB2.out.trans (HB4.out.mono HB2.out.size))
 clear hbB hvB hiB hv hb4 l0 l1 l2
 go_wp2_with fail
 refine (true_any ⟨some ⟨w.heap.size,0,none⟩,1,1,some ⟨w.heap.size+1+1+1,0,none⟩,2,2,[.slice (some ⟨w.heap.size+1,0,none⟩) 1 1,.slice (some ⟨w.heap.size+1+1,0,none⟩) 1 1],some ⟨w.heap.size+1+1+1+1,0,none⟩,2,2⟩ lvM 2 none 0 0 [] w4 (HMT.out.below (HB2.out.trans (HB4.out.mono HB2.out.size))).v (by decide) (by decide) (IsI.nil _)).mono ?_
 rintro e w5 ⟨v,rfl,hv,hb5⟩
 have hvf:v=false:=by
   cases v with
   | false=>rfl
   | true=>exact absurd (hv.1 rfl) lv_t3
 subst hvf
 have HB5:Hid (Below w2.heap.size w2 w5):=Lib.hid (HB4.out.trans (hb5.mono HB4.out.size))
 obtain ⟨l0,l1,l2⟩:=HC.out _ (HB2.out.trans (HB5.out.mono HB2.out.size))
 obtain ⟨o0,o1⟩:=HOC.out _ HB5.out
 clear hv hb5 k0 k1 k2
 go_wp2_with fail
 refine (fine_nil w5).mono ?_
 rintro e w6 ⟨rfl,hb6⟩
 have HB6:Hid (Below w2.heap.size w2 w6):=Lib.hid (HB5.out.trans (hb6.mono HB5.out.size))
 obtain ⟨k0,k1,k2⟩:=HC.out _ (HB2.out.trans (HB6.out.mono HB2.out.size))
 obtain ⟨q0,q1⟩:=HOC.out _ HB6.out
 clear hb6 l0 l1 l2 o0 o1
 go_wp2_with fail
 refine (least_any ⟨some ⟨w.heap.size,0,none⟩,1,1,some ⟨w.heap.size+1+1+1,0,none⟩,2,2,[.slice (some ⟨w.heap.size+1,0,none⟩) 1 1,.slice (some ⟨w.heap.size+1+1,0,none⟩) 1 1],some ⟨w.heap.size+1+1+1+1,0,none⟩,2,2⟩ lvM ha pa 2 hc 1 pc has P w6 (HMT.out.below (HB2.out.trans (HB6.out.mono HB2.out.size))).v (by decide) (HH2.out.below HB6.out) (HP2.out.below HB6.out)).mono ?_
 rintro e w7 ⟨v,rfl,hv,hb7⟩
 have hvt:v=true:=hv.2 ⟨lvM_ok,HOK.out.leastC⟩
 subst hvt
 have HB7:Hid (Below w2.heap.size w2 w7):=Lib.hid (HB6.out.trans (hb7.mono HB6.out.size))
 obtain ⟨l0,l1,l2⟩:=HC.out _ (HB2.out.trans (HB7.out.mono HB2.out.size))
 clear hv hb7 k0 k1 k2 q0 q1
 go_wp2_with fail
 obtain ⟨hbC,c0,c1⟩:=alloc2_facts w7 (.cells #[.int .i64 0,.int .i64 (-1)] 3 (0,0)) (.cells #[.int .i64 9] 3 (0,0))
 have hi0:IsI ((w7.alloc (.cells #[.int .i64 0,.int .i64 (-1)] 3 (0,0))).alloc (.cells #[.int .i64 9] 3 (0,0))) (some ⟨w7.heap.size,0,none⟩) 2 2 [0,-1]:=isI_blk (l:=[0,-1]) c0 (by decide)
 have hi1:IsI ((w7.alloc (.cells #[.int .i64 0,.int .i64 (-1)] 3 (0,0))).alloc (.cells #[.int .i64 9] 3 (0,0))) (some ⟨w7.heap.size+1,0,none⟩) 1 1 [9]:=isI_blk (l:=[9]) c1 (by decide)
 refine (least_any ⟨some ⟨w.heap.size,0,none⟩,1,1,some ⟨w.heap.size+1+1+1,0,none⟩,2,2,[.slice (some ⟨w.heap.size+1,0,none⟩) 1 1,.slice (some ⟨w.heap.size+1+1,0,none⟩) 1 1],some ⟨w.heap.size+1+1+1+1,0,none⟩,2,2⟩ lvM (some ⟨w7.heap.size,0,none⟩) (some ⟨w7.heap.size+1,0,none⟩) 2 2 1 1 [0,-1] [9] _ (HMT.out.below (HB2.out.trans ((HB7.out.trans (hbC.mono HB7.out.size)).mono HB2.out.size))).v (by decide) hi0 hi1).mono ?_
 rintro e w8 ⟨v,rfl,hv,hb8⟩
 have hvf:v=false:=by
   cases v with
   | false=>rfl
   | true=>exact absurd (hv.1 rfl).2 lv_not
 subst hvf
 have HB8:Hid (Below w.heap.size w w8):=Lib.hid (HB0.out.trans ((HB2.out.trans ((HB7.out.trans ((hbC.trans (hb8.mono hbC.size)).mono HB7.out.size)).mono HB2.out.size)).mono HB0.out.size))
 clear hv hb8 l0 l1 l2 hbC c0 c1 hi0 hi1
 go_wp2_with fail
 go_ret
 exact ⟨rfl,HB8.out⟩
end
section
open Go.RowKit Go.Shelf
set_option linter.unusedVariables false
set_option linter.unusedSimpArgs false
attribute [local go_sem] Oper.semAt_some
theorem truC_nil {m:MkC} {i:Int} {bid:List Int} (h:TruC m i bid):TruC m i []:=⟨h.1,h.2.1,h.2.2.1,h.2.2.2.1,mktB_set h.1 _⟩
set_option maxRecDepth 100000 in
set_option maxHeartbeats 8000000 in
theorem jhonest_any (x:MkA) (m:MkC) (tq:UInt8) (da:Option Addr) (dn dc:Nat) (bid:List Int) (w:World) (h:IsMk w (fun _=>True) x m) (hrm:m.r.length≤17592186044416) (hd:IsI w da dn dc bid) :
   Calls Tryz.prog 4 #[.agg x.cells.toArray,.int .u8 tq.toNat,.slice da dn dc] w fun e w' => e=.returned (.bool true)∧Below w.heap.size w w':=by
 obtain ⟨ra,rn,rc,ba,bn,bc,bv,oa,on,oc⟩:=x
 have hr:=h.r.1
 have hbb:=h.b
 have ho:=h.o.1
 unfold MkA.cells
 dsimp only at hr hbb ho ⊢
 obtain rfl:=hr.1
 obtain rfl:=hbb.1
 obtain rfl:=ho.1
 obtain rfl:=hd.1
 have hb0:Below w.heap.size w (w.alloc (.cells #[.slice ra m.r.length rc,.slice ba m.b.length bc,.slice oa m.o.length oc] 25)):=(Below.refl _ _).alloc (Nat.le_refl _) _
 have hv:=heap_new w (.cells #[.slice ra m.r.length rc,.slice ba m.b.length bc,.slice oa m.o.length oc] 25 (0,0))
 have HM:=Lib.hid (h.below hb0)
 have HD:=Lib.hid (hd.below hb0)
 have HRM:=Lib.hid hrm
 have htq:tq.toNat<256:=tq.toNat_lt
 generalize tq.toNat=T at htq ⊢
 clear h hr hbb ho hd hrm
 go_enter Tryz.func4,Tryz.ntmps4
 go_wp2_with fail
 generalize w.alloc (.cells #[.slice ra m.r.length rc,.slice ba m.b.length bc,.slice oa m.o.length oc] 25)=W at hb0 hv HM HD ⊢
 have c0:W.cell? ⟨w.heap.size,0,none⟩=some (.slice ra m.r.length rc):=by rw [cell_of_block hv];rfl
 have c1:W.cell? ⟨w.heap.size,1,none⟩=some (.slice ba m.b.length bc):=by rw [cell_of_block hv];rfl
 have c2:W.cell? ⟨w.heap.size,2,none⟩=some (.slice oa m.o.length oc):=by rw [cell_of_block hv];rfl
 have HB0:=Lib.hid hb0
 clear hb0 hv
 go_wp2_with fail
 refine (mcheck_any _ ⟨ra,m.r.length,rc,ba,m.b.length,bc,bv,oa,m.o.length,oc⟩ m W HM.out (by have:=HRM.out;omega)).mono ?_;rintro e w1 ⟨rfl,hb1⟩
 have HB1:=Lib.hid (HB0.out.trans (hb1.mono HB0.out.size))
 have HM1:=Lib.hid (HM.out.below hb1)
 have HD1:=Lib.hid (HD.out.below hb1)
 have k0:=cell_later hb1 c0
 have k1:=cell_later hb1 c1
 have k2:=cell_later hb1 c2
 clear hb1 c0 c1 c2
 cases hq:mktB m with
 | false =>
   clear hq
   go_wp2_with fail
   refine (lives_any w1).mono ?_
   rintro e w4 ⟨rfl,hb4⟩
   have HB4:=Lib.hid (HB1.out.trans (hb4.mono HB1.out.size))
   clear hb4
   go_wp2_with fail
   go_ret
   exact ⟨rfl,HB4.out⟩
 | true =>
 have hmo:=mktB_ok hq
 have hn8:=hmo.hn
 clear hq hmo
 go_wp2_with fail
 generalize hI:(T:Int) % (m.b.length:Int)=I
 have hI2:-9223372036854775808≤I∧I≤9223372036854775807:=by
   have h1:=Int.emod_nonneg (T:Int) (b:=(m.b.length:Int)) (by omega)
   have h2:=Int.emod_lt_of_pos (T:Int) (b:=(m.b.length:Int)) (by omega)
   omega
 have HI:=Lib.hid hI2
 clear hI hI2 htq hn8
 refine (true_any ⟨ra,m.r.length,rc,ba,m.b.length,bc,bv,oa,m.o.length,oc⟩ m I da bid.length dc bid w1 HM1.out HRM.out HI.out HD1.out).mono ?_
 rintro e w3 ⟨v,rfl,hv,hb3⟩
 have HB3:=Lib.hid (HB1.out.trans (hb3.mono HB1.out.size))
 have HM3:=Lib.hid (HM1.out.below hb3)
 cases v with
 | false =>
   clear hv hb3 k0 k1 k2
   go_wp2_with fail
   refine (lives_any w3).mono ?_
   rintro e w4 ⟨rfl,hb4⟩
   have HB4:=Lib.hid (HB3.out.trans (hb4.mono HB3.out.size))
   clear hb4
   go_wp2_with fail
   go_ret
   exact ⟨rfl,HB4.out⟩
 | true =>
   have HT:=Lib.hid (truC_nil (hv.1 rfl))
   have j0:=cell_later hb3 k0
   have j1:=cell_later hb3 k1
   have j2:=cell_later hb3 k2
   clear hv hb3 k0 k1 k2
   go_wp2_with fail
   refine (true_any ⟨ra,m.r.length,rc,ba,m.b.length,bc,bv,oa,m.o.length,oc⟩ m I none 0 0 [] w3 HM3.out HRM.out HI.out (IsI.nil _)).mono ?_
   rintro e w4 ⟨v,rfl,hv,hb4⟩
   have hvt:v=true:=hv.2 HT.out
   subst hvt
   have HB4:=Lib.hid (HB3.out.trans (hb4.mono HB3.out.size))
   clear hv hb4 j0 j1 j2
   go_wp2_with fail
   refine (lives_any w4).mono ?_
   rintro e w5 ⟨rfl,hb5⟩
   have HB5:=Lib.hid (HB4.out.trans (hb5.mono HB4.out.size))
   clear hb5
   go_wp2_with fail
   go_ret
   exact ⟨rfl,HB5.out⟩
end
section
open Go.ChangeShapes Go.WideShapes Go.ChangeAt Go.RowKit
set_option linter.unusedVariables false
set_option maxRecDepth 100000 in
theorem judgesHonest_lifted (os:Os) (started:os.Started) (H:Type) (enc:TypeId × Value→H) :
   ReturnsInHanded {} Tryz.checked os 4 .any (Rows.judgesHonestSpec.pre6 enc Tryz.prog Tryz.f4 Rows.judgesHonestRow.domain false) (Rows.judgesHonestSpec.post enc Tryz.prog Tryz.f4 false true false false):=by
 refine returnsInHanded_of_change6 (C:=Tryz.checked) own started (by kernel_rfl) Tryz.func4
   (ChangeSpec.witness6 (enc:=enc) (C:=Tryz.checked) false ⟨#[],#[.agg #[.slice none 0 0,.slice none 0 0,.slice none 0 0],.int .u8 0,.slice none 0 0],[]⟩ 8 (by kernel_rfl) (by kernel_rfl) (by kernel_rfl) (by kernel_rfl)) ?_
 intro W base args ds gs before hval0 hW _ hwt _
 have hval:∀ (j:Nat) t v,Tryz.f4.params[j]?=some t→args[j]?=some v→Value.okWide Tryz.prog W .any base t v:=hval0
 have hW':=hW
 obtain ⟨p,q,hA0,hV,rfl,hfz,hnd⟩:=hW
 have hA:DataW.TrodAll enc Tryz.prog W 0 (fun _=>true) true Tryz.f4.params.toList args.toList ds p:=hA0
 rw [Tryz.params4] at hA hval hwt
 obtain ⟨v0,vs0,x0,ds0,p0,q0,hargs0,rfl,rfl,H0,r0⟩:=trodAll_cons hA
 obtain ⟨v1,vs1,x1,ds1,p1,q1,hargs1,rfl,rfl,H1,r1⟩:=trodAll_cons r0
 obtain ⟨v2,vs2,x2,ds2,p2,q2,hargs2,rfl,rfl,H2,r2⟩:=trodAll_cons r1
 obtain ⟨rfl,rfl,rfl⟩:=trodAll_nil r2
 subst hargs2
 subst hargs1
 obtain rfl:args = #[v0,v1,v2]:=by cases args;simp_all
 obtain ⟨rfl,rfl⟩:=trodVars_none hV
 have sm:=small_of_all hwt
 have k0:=H0
 have k1:=H1
 have k2:=H2
 have lt0:∀ x ∈ p0,x.block<W.heap.size:=by obtain ⟨m,hm⟩:=k0;exact DataW.trod_lt m _ _ _ hm
 have lt1:∀ x ∈ p1,x.block<W.heap.size:=by obtain ⟨m,hm⟩:=k1;exact DataW.trod_lt m _ _ _ hm
 have lt2:∀ x ∈ p2,x.block<W.heap.size:=by obtain ⟨m,hm⟩:=k2;exact DataW.trod_lt m _ _ _ hm
 have o0:Opened Tryz.prog W 25 v0.cells.toList:=Opened.of H0 (weightsEach_get _ _ 0 25 _ sm rfl rfl)
 have o1:Opened Tryz.prog W 5 v1.cells.toList:=Opened.of H1 (weightsEach_get _ _ 1 5 _ sm rfl rfl)
 have o2:Opened Tryz.prog W 22 v2.cells.toList:=Opened.of H2 (weightsEach_get _ _ 2 22 _ sm rfl rfl)
 obtain ⟨mx,mm,rfl,hmk,hml⟩:=mkt_arg (hval 0 25 v0 rfl rfl) o0
 obtain ⟨tq,hte⟩:=Opened.u8 o1 Tryz.underlying5
 obtain rfl:v1=.int .u8 tq.toNat:=list_one ((Opened.intV Tryz.underlying5 (hval 1 5 v1 rfl rfl)).symm.trans hte)
 obtain ⟨da,dn,dc,bid,rfl,hd⟩:=ints_arg (hval 2 22 v2 rfl rfl) o2
 clear hA0 hval0
 refine (jhonest_any mx mm tq da dn dc bid W hmk hml hd).mono fun e W' ⟨he,bel⟩ => ?_
 subst he
 exact ⟨_,rfl,_,_,_,[],_,[],hW',trodAll_mk1 (shut_bool Tryz.underlying4 _),(trodAll_cons_mk (Below.trod laidOut (by kernel_rfl) (of_decide_eq_true (by kernel_rfl)) k0 bel lt0) (trodAll_cons_mk (Below.trod laidOut (by kernel_rfl) (of_decide_eq_true (by kernel_rfl)) k1 bel lt1) (trodAll_cons_mk (Below.trod laidOut (by kernel_rfl) (of_decide_eq_true (by kernel_rfl)) k2 bel lt2) trodAll_mk0))),rfl,bel.frame _,fun h=>by cases h⟩
theorem judgesHonest_holds:Rows.JudgesHonestSaid :=
 OpenClaim.holds_of_wide 4 Tryz.f4 rfl rfl rfl rfl rfl rfl rfl ⟨rfl,rfl,rfl,rfl,rfl⟩ rfl rfl rfl rfl rfl (by kernel_rfl) Tryz.func4 (by kernel_rfl)
   (of_decide_eq_true (by kernel_rfl)) (by unfold Func.isWrapper;first | (rw [if_pos (by decide +kernel)];kernel_rfl) | (rw [if_neg (by decide +kernel)];exact ⟨rfl,rfl⟩))
   (fun os started H enc _=>judgesHonest_lifted os started H enc)
#print axioms judgesHonest_holds
end
end Go.Proofs.YtmmmjohoihpbeaaGreat
