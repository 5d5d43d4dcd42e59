/- The package slots: what stands in a place;conditions: those typed. -/
import Derived.Test.YtgbikngicidbkaaGreatDoorQSlotsM
import Derived.Test.YtgbikngicidbkaaGreatDoorQNumsGet
import Derived.Test.YtgbikngicidbkaaGreatDoorQGDisksDisksA
import Derived.Test.YtgbikngicidbkaaGreatDoorQGHeapBFz
namespace Go.Proofs.YtgbikngicidbkaaGreatDoor
open Go.RowKit
set_option linter.unusedVariables false
def secAt (D:Dsk) (i:Nat):List UInt8:=D.secs.getD i []
def run5 (D:Dsk) (at_:Nat):Nat→List UInt8
 | 0=>[]
 | j+1=>run5 D at_ j ++ secAt D (at_+j)
def z54:List UInt8:=List.replicate 54 0
def numAt (D:Dsk) (p:Nat):Nat:=numOf ((secAt D (p+5)).take 4)
def manyAt (D:Dsk) (p:Nat):Nat:=numOf (((secAt D (p+5)).drop 4).take 2)
def place (D:Dsk) (p:Nat):Nat × List UInt8 :=
 if numAt D p=0∨320<manyAt D p then (0,[]) else
 if mkB (numAt D p) ((run5 D p 5).take (manyAt D p)) ++ z54=secAt D (p+5) then (numAt D p,(run5 D p 5).take (manyAt D p)) else (0,[])
theorem secAt_length {w:World} {bd bl:Nat} {D:Dsk} (h:IsDisk w bd bl D) (i:Nat) (hi:i<D.secs.length):(secAt D i).length=64:=by
 have e1:secAt D i=D.secs[i]:=by unfold secAt;simp [hi]
 rw [e1]
 exact h.secs _ (List.getElem_mem hi)
theorem run5_length {w:World} {bd bl:Nat} {D:Dsk} (h:IsDisk w bd bl D) (p j:Nat) (hj:p+j≤D.secs.length):(run5 D p j).length=64*j:=by
 induction j with
 | zero=>rfl
 | succ j ih =>
   show (run5 D p j ++ secAt D (p+j)).length=_
   rw [List.length_append,ih (by omega),secAt_length h _ (by omega)]
   omega
theorem read_sec (bd bl:Nat) (D:Dsk) (n:Nat) (nI:Int) (w:World) (h:IsDisk w bd bl D) (hI:nI=(n:Int)) (hn:n<D.secs.length) :
   Calls Tryz.prog 200 #[.pointer (some ⟨bd,0,none⟩),.int .i64 nI] w fun e w' => ∃ g,e=.returned (.tuple #[.slice (some ⟨g,0,none⟩) 64 64,.int .i64 0])∧Below w.heap.size w w'∧IsB w' (some ⟨g,0,none⟩) 64 64 (secAt D n):=by
 subst hI
 refine (read_good bd bl D n w h hn).mono ?_
 rintro e w' ⟨g,rfl,hb,_,hr⟩
 have e1:secAt D n=D.secs[n]:=by unfold secAt;simp [hn]
 have h64:(secAt D n).length=64:=secAt_length h n hn
 rw [← e1] at hr
 have:=hr.isB (by rw [h64];decide)
 rw [h64] at this
 exact ⟨g,rfl,hb,this⟩
theorem IsB.nonnil {w:World} {a:Option Addr} {n c:Nat} {l:List UInt8} (h:IsB w a n c l) (hl:0<l.length):∃ b off,a=some ⟨b,off,none⟩:=by
 rcases h.2.2.2 with ⟨h,_⟩ | ⟨b,off,h,_⟩
 · rw [h] at hl;simp at hl
 · exact ⟨b,off,h⟩
theorem IsB.sub {w:World} {b off n c:Nat} {l:List UInt8} (h:IsB w (some ⟨b,off,none⟩) n c l) (i m c':Nat) (hi:i+m≤l.length) (hm:m≤c') (hc:c'≤c):IsB w (some ⟨b,off+i,none⟩) m c' ((l.drop i).take m):=by
 obtain ⟨rfl,h1,h2,h3⟩:=h
 have hl:((l.drop i).take m).length=m:=by simp;omega
 refine ⟨hl.symm,by omega,Nat.le_trans hc h2,?_⟩
 rcases h3 with ⟨h,_⟩ | ⟨b',off',h,hlt,hcs⟩
 · left;rw [h];simp
 · cases h
   right
   refine ⟨_,_,rfl,hlt,fun j hj => ?_⟩
   have:=hcs (i+j) (by simp at hj;omega)
   rw [show off+i+j=off+(i+j) by omega,this]
   simp
theorem info_what:(Tryz.prog.info? 143).map (·.size)=some 2:=by kernel_rfl
theorem one_what0:∀ v ∈ [Value.int .u32 0,.slice none 0 0],v.oneCell'=true:=by intro v hv;simp at hv;rcases hv with rfl | rfl <;> rfl
theorem one_what (x:Int) (a:Option Addr) (n c:Nat):∀ v ∈ [Value.int .u32 x,.slice a n c],v.oneCell'=true:=by intro v hv;simp at hv;rcases hv with rfl | rfl <;> rfl
set_option maxRecDepth 100000 in
set_option maxHeartbeats 4000000 in
theorem sread_any (bd bl:Nat) (D:Dsk) (p:Nat) (pI:Int) (w:World) (h:IsDisk w bd bl D) (hI:pI=(p:Int)) (hp:p+5<D.secs.length) :
   Calls Tryz.prog 187 #[.pointer (some ⟨bd,0,none⟩),.int .i64 pI] w fun e w' => ∃ a c,e=.returned (.agg #[.int .u32 (place D p).1,.slice a (place D p).2.length c])∧Below w.heap.size w w'∧IsB w' a (place D p).2.length c (place D p).2:=by
 subst hI
 have hmost:=h.most
 have hb0:Below w.heap.size w (w.alloc (.cells #[.int .u32 0,.slice none 0 0] 143)):=(Below.refl _ _).alloc (Nat.le_refl _) _
 have hcz:=heap_new w (.cells #[.int .u32 0,.slice none 0 0] 143 (0,0))
 have h0:=h.touch (Touch.of_below (S:=fun _=>False) hb0) id id
 go_enter Tryz.func187,Tryz.ntmps187
 go_wp2_with fail
 generalize w.alloc (.cells #[.int .u32 0,.slice none 0 0] 143)=w0 at hb0 hcz h0 ⊢
 refine (read_sec bd bl D (p+5) _ w0 h0 (by omega) hp).mono ?_;rintro e w1 ⟨g,rfl,hb1,hi1⟩
 have hbz:w.heap.size<w0.heap.size:=lt_of_heap hcz
 generalize hzz:w.heap.size=bz at hcz hbz ⊢
 have hcz1:=below_heap hb1 hcz hbz
 have h1:=h0.touch (Touch.of_below (S:=fun _=>False) hb1) id id
 have HB1:=Lib.hid (hb0.trans (hb1.mono hb0.size))
 have hm64:=secAt_length h0 (p+5) hp
 have hnum:numAt D p<4294967296:=by
   have:=numOf_lt ((secAt D (p+5)).take 4)
   rw [List.length_take,hm64] at this
   exact this
 have hmany:manyAt D p<65536:=by
   have:=numOf_lt (((secAt D (p+5)).drop 4).take 2)
   rw [List.length_take,List.length_drop,hm64] at this
   exact this
 have hsub:IsB w1 (some ⟨g,0+4,none⟩) 60 60 (((secAt D (p+5)).drop 4).take 60):=hi1.sub 4 60 60 (by omega) (Nat.le_refl _) (by decide)
 have hl60:(((secAt D (p+5)).drop 4).take 60).length=60:=by simp [hm64]
 have e4:numOf ((secAt D (p+5)).take 4)=numAt D p:=rfl
 have e2:numOf ((((secAt D (p+5)).drop 4).take 60).take 2)=manyAt D p:=by rw [List.take_take];rfl
 have E4:=Lib.hid e4
 have E2:=Lib.hid e2
 clear e4 e2
 go_wp2_with fail
 refine (nget_any _ 64 4 64 (secAt D (p+5)) w1 hi1 (by decide) (by decide) (by omega)).mono ?_;rintro e w2 ⟨rfl,hb2⟩
 rw [E4.out]
 go_wp2_with fail
 refine (nget_any _ 60 2 60 (((secAt D (p+5)).drop 4).take 60) w2 (hsub.below hb2) (by decide) (by decide) (by omega)).mono ?_;rintro e w3 ⟨rfl,hb3⟩
 rw [E2.out]
 have HB3:=Lib.hid ((HB1.out.trans (hb2.mono HB1.out.size)).trans (hb3.mono (Nat.le_trans HB1.out.size hb2.size)))
 have hb13:=hb2.trans (hb3.mono hb2.size)
 have h3:=h1.touch (Touch.of_below (S:=fun _=>False) hb13) id id
 have hi3:=hi1.below hb13
 have hcz3:=below_heap hb13 hcz1 (Nat.lt_of_lt_of_le hbz hb1.size)
 have HZ:=Lib.hid hzz
 clear hb2 hb3 hb13 hi1 h1 hcz1 hsub hl60 h0 hcz hb1 hb0 h HB1 E4 E2 hzz
 by_cases hA:numAt D p=0∨320<manyAt D p
 · have hpl:place D p=(0,[]):=if_pos hA
   have HPL:=Lib.hid hpl
   have f0:w3.cell? ⟨bz,0,none⟩=some (.int .u32 0):=by rw [cell_of_block hcz3];rfl
   have f1:w3.cell? ⟨bz,1,none⟩=some (.slice none 0 0):=by rw [cell_of_block hcz3];rfl
   have HA:=Lib.hid hA
   clear hA hpl hi3 h3 f0 f1
   by_cases hn0:numAt D p=0
   · have d0:((numAt D p:Int) == 0)=true:=by rw [hn0];rfl
     clear hn0
     go_wp2_with (first
       | (refine wpList_store_whole rfl 143 (.tmp 4) (.tmp 44) rfl bz [.int .u32 0,.slice none 0 0] _ _ hcz3 rfl rfl rfl info_what one_what0 ?_;intro w4 ht4 hg4)
       | fail)
     refine bodyPost_ret (results_cell rfl _ _ bz 0 rfl [.int .u32 0,.slice none 0 0] _ (rangeAt_row hg4) Tryz.underlying143 rfl info_what) rfl ?_
     rw [HPL.out]
     exact ⟨none,0,rfl,HB3.out.trans (ht4.below HB3.out.size (fun k hk e=>by have:=HZ.out;omega)),IsB.nil _⟩
   · have d0:((numAt D p:Int) == 0)=false:=by rw [beq_eq_false_iff_ne];omega
     have d1:decide ((320:Int)<(manyAt D p:Int))=true:=by rw [decide_eq_true_eq];have:=HA.out;omega
     go_wp2_with (first
       | (refine wpList_store_whole rfl 143 (.tmp 4) (.tmp 44) rfl bz [.int .u32 0,.slice none 0 0] _ _ hcz3 rfl rfl rfl info_what one_what0 ?_;intro w4 ht4 hg4)
       | fail)
     refine bodyPost_ret (results_cell rfl _ _ bz 0 rfl [.int .u32 0,.slice none 0 0] _ (rangeAt_row hg4) Tryz.underlying143 rfl info_what) rfl ?_
     rw [HPL.out]
     exact ⟨none,0,rfl,HB3.out.trans (ht4.below HB3.out.size (fun k hk e=>by have:=HZ.out;omega)),IsB.nil _⟩
 have hA0:numAt D p≠0:=fun h=>hA (.inl h)
 have hA1:manyAt D p≤320:=by omega
 have d0:((numAt D p:Int) == 0)=false:=by rw [beq_eq_false_iff_ne];omega
 have d1:decide ((320:Int)<(manyAt D p:Int))=false:=by rw [decide_eq_false_iff_not];omega
 have hbz3:bz<w3.heap.size:=lt_of_heap hcz3
 have HP:Hid (p+5<D.secs.length∧D.secs.length≤1024):=Lib.hid ⟨hp,hmost⟩
 have HA:=Lib.hid hA
 clear hA
 obtain ⟨N,hN⟩:∃ N,N=5:=⟨_,rfl⟩
 have HN:=Lib.hid hN
 clear hN
 go_wp2_with fail
 go_loopw [45,11] (fun i s wr => ∃ j:Nat,∃ m b' c',j≤5∧m=64*j∧i=.int .i64 j∧s=.slice b' m c'∧wr.ownsRow w3.heap.size 5 1 (.slice b' m c') m (bcells (run5 D p j))∧Below w3.heap.size w3 wr) (fun i _ _=>N - (intOf i).toNat)
 case atStart=>exact ⟨0,0,none,0,by omega,rfl,rfl,rfl,World.ownsRow_nil _ _ _ _,Below.refl _ _⟩
 case round =>
   obtain ⟨j,m,b',c',hj,hm,rfl,rfl,hown,hbw⟩:=hrel
   have HM:=Lib.hid hm
   have hm320:m≤320:=by omega
   by_cases hlt:j<5
   · have hd':=h3.touch (Touch.of_below (S:=fun _=>False) hbw) id id
     have hr1:Hid (run5 D p (j+1)=run5 D p j ++ secAt D (p+j)):=Lib.hid rfl
     have hpj:p+j<D.secs.length:=by omega
     clear hm
     go_wp2_with fail
     refine (read_sec bd bl D (p+j) _ wr hd' (by omega) hpj).mono ?_;rintro e w4 ⟨g4,rfl,hb4,hi4⟩
     have h64:=secAt_length hd' (p+j) hpj
     have hown4:=owns_below hown hb4
     have hat4:=hi4.at
     have hbl:(bcells (secAt D (p+j))).length=64*1:=by rw [bcells_length,h64]
     have hb4':=hbw.trans (hb4.mono hbw.size)
     clear hown hi4 hb4 hd' hbw
     go_wp2_with (at_builtin;refine wpList_append_any rowU8 rfl _ _ rfl w3.heap.size _ m (bcells (run5 D p j)) rfl hown4 (some ⟨g4,0,none⟩) 64 64 (bcells (secAt D (p+j))) rfl hbl hat4 (bcells_one _) (by unfold maxLen;omega) (by omega) hb4'.size ?_;intro b5 c5 w5 hown5 hg5 hat5)
     rw [← bcells_append,← hr1.out] at hown5
     have hb5:=hb4'.grown hg5 hb4'.size (fun i hi=>owns_base hown4 i hi)
     clear hown4 hat4 hg5 hat5 hbl
     go_roundw
     case rel=>exact ⟨j+1,m+64,b5,c5,by omega,by have:=HM.out;omega,by go_num,rfl,hown5,hb5⟩
     case measure=>have:=HN.out;simp [intOf];omega
   · have hj5:j=5:=by omega
     subst hj5
     have hm5:m=320:=by rw [hm]
     subst hm5
     have hlen5:=run5_length h3 p 5 (by omega)
     have hi5:=isB_of_owns hown (by rw [hlen5])
     have hc5:320≤c':=by have:=hi5.2.1;omega
     obtain ⟨g5,hg5⟩:∃ g5,b'=some ⟨g5,0,none⟩:=by
       rcases hown.2 with ⟨_,h⟩ | ⟨g5,_,_,h,_⟩
       · cases h
       · exact ⟨g5,by cases h;rfl⟩
     subst hg5
     have hgb:w3.heap.size≤g5:=owns_base hown g5 rfl
     have hsb:=hi5.sub 0 (manyAt D p) (manyAt D p) (by omega) (Nat.le_refl _) (by omega)
     rw [List.drop_zero,Nat.add_zero] at hsb
     have hcr:=below_heap hbw hcz3 hbz3
     have hir:=hi3.below hbw
     have e32:IntKind.u32.wrap (numAt D p:Int)=(numAt D p:Int):=by rw [IntKind.wrap_u32];omega
     have hsl:((run5 D p 5).take (manyAt D p)).length=manyAt D p:=by rw [List.length_take,hlen5];omega
     clear hm hown hi5 hi3 hcz3 h3
     go_wp2_with fail
     have hsp:Below wr.heap.size wr (wr.alloc (.cells #[.int .u32 (numAt D p),.slice (some ⟨g5,0,none⟩) (manyAt D p) (manyAt D p)] 143)):=(Below.refl _ _).alloc (Nat.le_refl _) _
     have hv:=heap_new wr (.cells #[.int .u32 (numAt D p),.slice (some ⟨g5,0,none⟩) (manyAt D p) (manyAt D p)] 143 (0,0))
     have hbr:bz<wr.heap.size:=lt_of_heap hcr
     have HBr:=Lib.hid (HB3.out.trans (hbw.mono HB3.out.size))
     have HW:Hid (wr.heap[bz]?=some (.cells #[.int .u32 0,.slice none 0 0] 143 (0,0))∧IsB wr (some ⟨g,0,none⟩) 64 64 (secAt D (p+5))∧IsB wr (some ⟨g5,0,none⟩) (manyAt D p) (manyAt D p) ((run5 D p 5).take (manyAt D p))):=Lib.hid ⟨hcr,hir,hsb⟩
     clear hcr hbw
     generalize wr.alloc (.cells #[.int .u32 (numAt D p),.slice (some ⟨g5,0,none⟩) (manyAt D p) (manyAt D p)] 143)=v0 at hsp hv ⊢
     refine (mark_any (numAt D p) hnum (some ⟨g5,0,none⟩) (manyAt D p) (manyAt D p) ((run5 D p 5).take (manyAt D p)) v0 (hsb.below hsp) (by omega)).mono ?_;rintro e v1 ⟨a1,rfl,hb1,hi1⟩
     obtain ⟨mb,mo,rfl⟩:=hi1.nonnil (by rw [mkB_length];decide)
     clear hir hsb
     go_wp2_with (first
       | (at_builtin;refine wpList_append_zeros_full rfl _ _ 3 rfl .i64 .i64 Tryz.underlying3 mb mo 10 _ rfl hi1 54 54 rfl rfl (by decide) (by decide) ?_;intro c2 v2 hi2 hb2)
       | fail)
     have hb02:=hsp.trans ((hb1.trans (hb2.mono hb1.size)).mono hsp.size)
     have hir:=HW.out.2.1.below hb02
     have hb12:=hb1.trans (hb2.mono hb1.size)
     refine (sequal_any _ _ _ _ c2 64 _ _ v2 hi2 hir).mono ?_
     rintro e v3 ⟨rfl,j,rfl⟩
     have hq:=below_drewN (Below.refl v2.heap.size v2) j
     have hb03:=hb02.trans (hq.mono hb02.size)
     have hb13:=hb12.trans (hq.mono hb12.size)
     have hv3:=below_heap hb13 hv (lt_of_heap hv)
     have hcr3:=below_heap hb03 HW.out.1 hbr
     have HB33:=Lib.hid (HBr.out.trans (hb03.mono HBr.out.size))
     have hsb3:=Lib.hid (HW.out.2.2.below hb03)
     have HV:=Lib.hid hv3
     clear hb02 hir hb12 hq hb03 hb13 hv hi1 hi2 hb1 hb2 hsp HW
     generalize v2.drewN j=v3 at hcr3 HB33 hsb3 HV ⊢
     by_cases hqq:mkB (numAt D p) ((run5 D p 5).take (manyAt D p)) ++ z54=secAt D (p+5)
     · have hpl:place D p=(numAt D p,(run5 D p 5).take (manyAt D p)):=by unfold place;rw [if_neg HA.out,if_pos hqq]
       have HPL:=Lib.hid hpl
       have hdq:decide (mkB (numAt D p) ((run5 D p 5).take (manyAt D p)) ++ List.replicate 54 0=secAt D (p+5))=true:=decide_eq_true hqq
       rw [hdq]
       clear hqq hdq hpl
       go_wp2_with (first
         | (refine wpList_load_mid rfl 143 (.tmp 15) rfl wr.heap.size 0 rfl [.int .u32 (numAt D p),.slice (some ⟨g5,0,none⟩) (manyAt D p) (manyAt D p)] _ (rangeAt_row HV.out) Tryz.underlying143 rfl info_what ?_)
         | (refine wpList_store_whole rfl 143 (.tmp 4) (.tmp 74) rfl bz [.int .u32 (numAt D p),.slice (some ⟨g5,0,none⟩) (manyAt D p) (manyAt D p)] _ _ hcr3 rfl rfl rfl info_what (one_what _ _ _ _) ?_;intro w4 ht4 hg4)
         | fail)
       refine bodyPost_ret (results_cell rfl _ _ bz 0 rfl [.int .u32 (numAt D p),.slice (some ⟨g5,0,none⟩) (manyAt D p) (manyAt D p)] _ (rangeAt_row hg4) Tryz.underlying143 rfl info_what) rfl ?_
       rw [HPL.out]
       refine ⟨some ⟨g5,0,none⟩,manyAt D p,by rw [hsl],HB33.out.trans (ht4.below HB33.out.size (fun k hk e=>by have:=HZ.out;omega)),?_⟩
       rw [hsl]
       exact hsb3.out.touch ht4 (fun b off h _ e=>by cases h;omega)
     · have hpl:place D p=(0,[]):=by unfold place;rw [if_neg HA.out,if_neg hqq]
       have HPL:=Lib.hid hpl
       have hdq:decide (mkB (numAt D p) ((run5 D p 5).take (manyAt D p)) ++ List.replicate 54 0=secAt D (p+5))=false:=decide_eq_false hqq
       rw [hdq]
       clear hqq hdq hpl
       go_wp2_with (first
         | (refine wpList_store_whole rfl 143 (.tmp 4) (.tmp 73) rfl bz [.int .u32 0,.slice none 0 0] _ _ hcr3 rfl rfl rfl info_what one_what0 ?_;intro w4 ht4 hg4)
         | fail)
       refine bodyPost_ret (results_cell rfl _ _ bz 0 rfl [.int .u32 0,.slice none 0 0] _ (rangeAt_row hg4) Tryz.underlying143 rfl info_what) rfl ?_
       rw [HPL.out]
       exact ⟨none,0,rfl,HB33.out.trans (ht4.below HB33.out.size (fun k hk e=>by have:=HZ.out;omega)),IsB.nil _⟩
/- The package slots: the newest of both places;conditions: those typed. -/
def newestW (D:Dsk) (p:Nat):(Nat × List UInt8) × Nat :=
 if (place D p).1<(place D (p+6)).1 then (place D (p+6),p) else if 0<(place D p).1 then (place D p,p+6) else ((0,[]),p)
structure NewSt (w:World) (b6:Nat) (x0 x1:Nat × List UInt8) (a0:Option Addr) (c0:Nat) (a1:Option Addr) (c1:Nat):Prop where
 row:w.heap[b6]?=some (.cells #[.int .u32 x0.1,.slice a0 x0.2.length c0,.int .u32 x1.1,.slice a1 x1.2.length c1] 215 (0,0))
 i0:IsB w a0 x0.2.length c0 x0.2
 i1:IsB w a1 x1.2.length c1 x1.2
theorem NewSt.below {w w':World} {b6:Nat} {x0 x1:Nat × List UInt8} {a0:Option Addr} {c0:Nat} {a1:Option Addr} {c1:Nat} (h:NewSt w b6 x0 x1 a0 c0 a1 c1) (hb:Below w.heap.size w w'):NewSt w' b6 x0 x1 a0 c0 a1 c1 :=
 ⟨below_heap hb h.row (lt_of_heap h.row),h.i0.below hb,h.i1.below hb⟩
theorem place_lt (D:Dsk) (p:Nat) (h:(secAt D (p+5)).length=64):(place D p).1<4294967296:=by
 have hnum:numAt D p<4294967296:=by
   have:=numOf_lt ((secAt D (p+5)).take 4)
   rw [List.length_take,h] at this
   exact this
 unfold place
 split
 · decide
 · split
   · exact hnum
   · decide
set_option linter.unusedSimpArgs false
theorem IsB.off_block {w:World} {a:Option Addr} {n c k:Nat} {l:List UInt8} {C:Array Value} {ty:TypeId} (h:IsB w a n c l) (hC:w.heap[k]?=some (.cells C ty (0,0))) (hx:∀ (i:Nat) (v:Value),C[i]?=some v→¬ ∃ x:Int,v=Value.int .u8 x):∀ b off,a=some ⟨b,off,none⟩→l≠[]→¬ (b=k):=by
 intro b off ha hl hb
 subst hb
 rcases h.2.2.2 with ⟨h0,_⟩ | ⟨b',off',h0,hlt,hc⟩
 · exact hl h0
 · rw [ha] at h0
   cases h0
   have:=hc 0 (List.length_pos_iff.2 hl)
   rw [cell_of_block hC] at this
   exact hx _ _ this ⟨((l[0]'(List.length_pos_iff.2 hl)).toNat:Int),rfl⟩
theorem no_bytes (n0 n1:Int) (a0 a1:Option Addr) (l0 c0 l1 c1:Nat):∀ (i:Nat) (v:Value),(#[Value.int .u32 n0,.slice a0 l0 c0,.int .u32 n1,.slice a1 l1 c1]:Array Value)[i]?=some v→¬ ∃ x:Int,v=Value.int .u8 x:=by
 rintro i v h ⟨x,rfl⟩
 match i,h with
 | 0,h=>simp at h
 | 1,h=>simp at h
 | 2,h=>simp at h
 | 3,h=>simp at h
 | i+4,h=>simp at h
theorem NewSt.put0 {w w':World} {b6:Nat} {x0 x1 y:Nat × List UInt8} {a0:Option Addr} {c0:Nat} {a1:Option Addr} {c1:Nat} {a:Option Addr} {c:Nat} (h:NewSt w b6 x0 x1 a0 c0 a1 c1) (hi:IsB w a y.2.length c y.2) (ht:Touch (fun k=>k=b6) w w')
   (hg:w'.heap[b6]?=some (.cells ((#[Value.int .u32 x0.1,.slice a0 x0.2.length c0,.int .u32 x1.1,.slice a1 x1.2.length c1]:Array Value).toList.take 0 ++ [Value.int .u32 y.1,.slice a y.2.length c] ++ (#[Value.int .u32 x0.1,.slice a0 x0.2.length c0,.int .u32 x1.1,.slice a1 x1.2.length c1]:Array Value).toList.drop (0+[Value.int .u32 y.1,.slice a y.2.length c].length)).toArray 215 (0,0))):NewSt w' b6 y x1 a c a1 c1 :=
 ⟨hg,hi.touch ht (hi.off_block h.row (no_bytes _ _ _ _ _ _ _ _)),h.i1.touch ht (h.i1.off_block h.row (no_bytes _ _ _ _ _ _ _ _))⟩
theorem NewSt.put1 {w w':World} {b6:Nat} {x0 x1 y:Nat × List UInt8} {a0:Option Addr} {c0:Nat} {a1:Option Addr} {c1:Nat} {a:Option Addr} {c:Nat} (h:NewSt w b6 x0 x1 a0 c0 a1 c1) (hi:IsB w a y.2.length c y.2) (ht:Touch (fun k=>k=b6) w w')
   (hg:w'.heap[b6]?=some (.cells ((#[Value.int .u32 x0.1,.slice a0 x0.2.length c0,.int .u32 x1.1,.slice a1 x1.2.length c1]:Array Value).toList.take 2 ++ [Value.int .u32 y.1,.slice a y.2.length c] ++ (#[Value.int .u32 x0.1,.slice a0 x0.2.length c0,.int .u32 x1.1,.slice a1 x1.2.length c1]:Array Value).toList.drop (2+[Value.int .u32 y.1,.slice a y.2.length c].length)).toArray 215 (0,0))):NewSt w' b6 x0 y a0 c0 a c :=
 ⟨hg,h.i0.touch ht (h.i0.off_block h.row (no_bytes _ _ _ _ _ _ _ _)),hi.touch ht (hi.off_block h.row (no_bytes _ _ _ _ _ _ _ _))⟩
theorem zero_bytes:∀ (i:Nat) (v:Value),(#[Value.int .u32 0,.slice none 0 0]:Array Value)[i]?=some v→¬ ∃ x:Int,v=Value.int .u8 x:=by
 rintro i v h ⟨x,rfl⟩
 match i,h with
 | 0,h=>simp at h
 | 1,h=>simp at h
 | i+2,h=>simp at h
set_option maxRecDepth 100000 in
set_option maxHeartbeats 4000000 in
theorem newest_any (bd bl:Nat) (D:Dsk) (p:Nat) (pI:Int) (w:World) (h:IsDisk w bd bl D) (hI:pI=(p:Int)) (hp:p+12≤D.secs.length) :
   Calls Tryz.prog 129 #[.pointer (some ⟨bd,0,none⟩),.int .i64 pI] w fun e w' => ∃ a c,e=.returned (.tuple #[.agg #[.int .u32 (newestW D p).1.1,.slice a (newestW D p).1.2.length c],.int .i64 (newestW D p).2])∧Below w.heap.size w w'∧IsB w' a (newestW D p).1.2.length c (newestW D p).1.2:=by
 subst hI
 have hmost:=h.most
 have hb0:Below w.heap.size w ((w.alloc (.cells #[.int .u32 0,.slice none 0 0] 143)).alloc (.cells #[.int .u32 0,.slice none 0 0,.int .u32 0,.slice none 0 0] 215)):=((Below.refl _ _).alloc (Nat.le_refl _) _).alloc (by simp) _
 have hcz:((w.alloc (.cells #[.int .u32 0,.slice none 0 0] 143)).alloc (.cells #[.int .u32 0,.slice none 0 0,.int .u32 0,.slice none 0 0] 215)).heap[w.heap.size]?=some (.cells #[.int .u32 0,.slice none 0 0] 143 (0,0)):=below_heap (B:=w.heap.size+1) ((Below.refl _ _).alloc (by simp) _) (heap_new w _) (by omega)
 have hl6:NewSt ((w.alloc (.cells #[.int .u32 0,.slice none 0 0] 143)).alloc (.cells #[.int .u32 0,.slice none 0 0,.int .u32 0,.slice none 0 0] 215)) (w.heap.size+1) (0,[]) (0,[]) none 0 none 0:=⟨by
   have:=heap_new (w.alloc (.cells #[.int .u32 0,.slice none 0 0] 143)) (.cells #[.int .u32 0,.slice none 0 0,.int .u32 0,.slice none 0 0] 215 (0,0))
   rw [show (w.alloc (.cells #[.int .u32 0,.slice none 0 0] 143)).heap.size=w.heap.size+1 by simp] at this
   exact this,IsB.nil _,IsB.nil _⟩
 have h0:=h.touch (Touch.of_below (S:=fun _=>False) hb0) id id
 go_enter Tryz.func129,Tryz.ntmps129
 go_wp2_with fail
 generalize (w.alloc (.cells #[.int .u32 0,.slice none 0 0] 143)).alloc (.cells #[.int .u32 0,.slice none 0 0,.int .u32 0,.slice none 0 0] 215)=w0 at hb0 hcz hl6 h0 ⊢
 obtain ⟨N,hN⟩:∃ N,N=2:=⟨_,rfl⟩
 have HN:=Lib.hid hN
 clear hN h
 obtain ⟨bz,hbz⟩:∃ bz,bz=w.heap.size:=⟨_,rfl⟩
 obtain ⟨b6,hb6⟩:∃ b6,b6=w.heap.size+1:=⟨_,rfl⟩
 rw [← hb6] at hl6 ⊢
 rw [← hbz] at hcz ⊢
 have HZ:Hid (w.heap.size≤bz∧w.heap.size≤b6∧bz≠b6):=Lib.hid (by omega)
 clear hbz hb6
 have HP:Hid (p+12≤D.secs.length∧D.secs.length≤1024):=Lib.hid ⟨hp,hmost⟩
 go_loopw [8] (fun i wr => ∃ j:Nat,∃ a0 c0 a1 c1,j≤2∧i=.int .i64 j∧Hid (IsDisk wr bd bl D)∧Hid (NewSt wr b6 (if 1≤j then place D p else (0,[])) (if 2≤j then place D (p+6) else (0,[])) a0 c0 a1 c1)∧Hid (Below w.heap.size w wr)∧Hid (wr.heap[bz]?=some (.cells #[.int .u32 0,.slice none 0 0] 143 (0,0)))) (fun i _=>N - (intOf i).toNat)
 case atStart=>exact ⟨0,none,0,none,0,by omega,rfl,Lib.hid h0,Lib.hid hl6,Lib.hid hb0,Lib.hid hcz⟩
 case round =>
   obtain ⟨j,a0,c0,a1,c1,hj,rfl,hd,hst,hbw,hcz'⟩:=hrel
   by_cases hlt:j<2
   · rcases (show j=0∨j=1 by omega) with rfl | rfl
     · have hdd:=hd.out
       have hss:=hst.out
       have hww:=hbw.out
       have hzz:=hcz'.out
       simp only [Nat.reduceLeDiff,if_true,if_false,Nat.le_refl] at hss
       clear hst
       go_wp2_with fail
       refine (sread_any bd bl D (p) _ wr hdd (by omega) (by have:=HP.out;omega)).mono ?_;rintro e w2 ⟨a2,c2,rfl,hb2,hi2⟩
       have hss2:=hss.below hb2
       have hd2:=hdd.touch (Touch.of_below (S:=fun _=>False) hb2) id id
       have hz2:=below_heap hb2 hzz (lt_of_heap hzz)
       have hw2:=hww.trans (hb2.mono hww.size)
       clear hss hdd hzz hww hb2
       go_wp2_with (first
         | (refine wpList_store_part rfl 143 (.tmp 18) (.tmp 17) rfl b6 0 [.int .u32 (place D (p)).1,.slice a2 (place D (p)).2.length c2] _ _ hss2.row rfl rfl (by simp) info_what (one_what _ _ _ _) ?_;intro w3 ht3 hg3)
         | fail)
       have hst3:=hss2.put0 hi2 ht3 hg3
       have hd3:=hd2.touch ht3 (fun e=>by have h1:=hd2.cells;have h2:=hss2.row;rw [e,h2] at h1;simp at h1) (fun e=>by have h1:=hd2.row;have h2:=hss2.row;rw [e,h2] at h1;have:=(Obj.cells.inj (Option.some.inj h1)).2.1;revert this;decide)
       have hz3:=ht3.heap hz2 HZ.out.2.2
       have hw3:=hw2.trans (ht3.below hw2.size (fun k hk e=>by have:=HZ.out;omega))
       go_roundw
       case rel=>exact ⟨1,a2,c2,a1,c1,by omega,rfl,Lib.hid hd3,Lib.hid (by simpa using hst3),Lib.hid hw3,Lib.hid hz3⟩
       case measure=>have:=HN.out;simp [intOf];omega
     · have hdd:=hd.out
       have hss:=hst.out
       have hww:=hbw.out
       have hzz:=hcz'.out
       simp only [Nat.reduceLeDiff,if_true,if_false,Nat.le_refl] at hss
       clear hst
       go_wp2_with fail
       refine (sread_any bd bl D (p+6) _ wr hdd (by omega) (by have:=HP.out;omega)).mono ?_;rintro e w2 ⟨a2,c2,rfl,hb2,hi2⟩
       have hss2:=hss.below hb2
       have hd2:=hdd.touch (Touch.of_below (S:=fun _=>False) hb2) id id
       have hz2:=below_heap hb2 hzz (lt_of_heap hzz)
       have hw2:=hww.trans (hb2.mono hww.size)
       clear hss hdd hzz hww hb2
       go_wp2_with (first
         | (refine wpList_store_part rfl 143 (.tmp 18) (.tmp 17) rfl b6 2 [.int .u32 (place D (p+6)).1,.slice a2 (place D (p+6)).2.length c2] _ _ hss2.row rfl rfl (by simp) info_what (one_what _ _ _ _) ?_;intro w3 ht3 hg3)
         | fail)
       have hst3:=hss2.put1 hi2 ht3 hg3
       have hd3:=hd2.touch ht3 (fun e=>by have h1:=hd2.cells;have h2:=hss2.row;rw [e,h2] at h1;simp at h1) (fun e=>by have h1:=hd2.row;have h2:=hss2.row;rw [e,h2] at h1;have:=(Obj.cells.inj (Option.some.inj h1)).2.1;revert this;decide)
       have hz3:=ht3.heap hz2 HZ.out.2.2
       have hw3:=hw2.trans (ht3.below hw2.size (fun k hk e=>by have:=HZ.out;omega))
       go_roundw
       case rel=>exact ⟨2,a0,c0,a2,c2,by omega,rfl,Lib.hid hd3,Lib.hid (by simpa using hst3),Lib.hid hw3,Lib.hid hz3⟩
       case measure=>have:=HN.out;simp [intOf];omega
   · have hj2:j=2:=by omega
     subst hj2
     have hst':NewSt wr b6 (place D p) (place D (p+6)) a0 c0 a1 c1:=hst.out
     have hww:=hbw.out
     have hzz:=hcz'.out
     have hob0:=hst'.i0.off_block hzz zero_bytes
     have hob1:=hst'.i1.off_block hzz zero_bytes
     have r0:Hid (wr.rangeAt b6 0 [.int .u32 (place D p).1,.slice a0 (place D p).2.length c0]):=Lib.hid (rangeAt_mid hst'.row (by simp))
     have r2:Hid (wr.rangeAt b6 2 [.int .u32 (place D (p+6)).1,.slice a1 (place D (p+6)).2.length c1]):=Lib.hid (rangeAt_mid hst'.row (by simp))
     have g0:wr.cell? ⟨b6,0,none⟩=some (.int .u32 (place D p).1):=by rw [cell_of_block hst'.row];rfl
     have g2:wr.cell? ⟨b6,2,none⟩=some (.int .u32 (place D (p+6)).1):=by rw [cell_of_block hst'.row];rfl
     by_cases hlt:(place D p).1<(place D (p+6)).1
     · have HNW:Hid (newestW D p=(place D (p+6),p)):=Lib.hid (if_pos hlt)
       have d1:decide ((place D p).1<(place D (p+6)).1)=true:=decide_eq_true hlt
       clear hlt
       go_wp2_with (first
         | (refine wpList_load_mid rfl 143 (.tmp 28) rfl b6 2 rfl [.int .u32 (place D (p+6)).1,.slice a1 (place D (p+6)).2.length c1] _ r2.out Tryz.underlying143 rfl info_what ?_)
         | (refine wpList_store_whole rfl 143 (.tmp 4) (.tmp 29) rfl bz [.int .u32 (place D (p+6)).1,.slice a1 (place D (p+6)).2.length c1] _ _ hzz rfl rfl rfl info_what (one_what _ _ _ _) ?_;intro w4 ht4 hg4)
         | fail)
       refine bodyPost_ret (results_cell_tmp rfl _ _ bz 0 rfl [.int .u32 (place D (p+6)).1,.slice a1 (place D (p+6)).2.length c1] _ (rangeAt_row hg4) Tryz.underlying143 rfl info_what) rfl ?_
       rw [HNW.out]
       have hbz4:=hww.trans (ht4.below hww.size (fun k hk e=>by have:=HZ.out;omega))
       exact ⟨a1,c1,rfl,hbz4,hst'.i1.touch ht4 hob1⟩
     have d1:decide ((place D p).1<(place D (p+6)).1)=false:=decide_eq_false hlt
     by_cases hp0:0<(place D p).1
     · have HNW:Hid (newestW D p=(place D p,p+6)):=Lib.hid (by unfold newestW;rw [if_neg hlt,if_pos hp0])
       have d2:decide (0<(place D p).1)=true:=decide_eq_true hp0
       clear hlt hp0
       have hP1:=HP.out.1
       have hP2:=HP.out.2
       go_wp2_with (first
         | (refine wpList_load_mid rfl 143 (.tmp 36) rfl b6 0 rfl [.int .u32 (place D p).1,.slice a0 (place D p).2.length c0] _ r0.out Tryz.underlying143 rfl info_what ?_)
         | (refine wpList_store_whole rfl 143 (.tmp 4) (.tmp 37) rfl bz [.int .u32 (place D p).1,.slice a0 (place D p).2.length c0] _ _ hzz rfl rfl rfl info_what (one_what _ _ _ _) ?_;intro w4 ht4 hg4)
         | fail)
       refine bodyPost_ret (results_cell_tmp rfl _ _ bz 0 rfl [.int .u32 (place D p).1,.slice a0 (place D p).2.length c0] _ (rangeAt_row hg4) Tryz.underlying143 rfl info_what) rfl ?_
       rw [HNW.out]
       have hbz4:=hww.trans (ht4.below hww.size (fun k hk e=>by have:=HZ.out;omega))
       exact ⟨a0,c0,by simp,hbz4,hst'.i0.touch ht4 hob0⟩
     · have HNW:Hid (newestW D p=((0,[]),p)):=Lib.hid (by unfold newestW;rw [if_neg hlt,if_neg hp0])
       have d2:decide (0<(place D p).1)=false:=decide_eq_false hp0
       clear hlt hp0
       go_wp2_with (first
         | (refine wpList_store_whole rfl 143 (.tmp 4) (.tmp 40) rfl bz [.int .u32 0,.slice none 0 0] _ _ hzz rfl rfl rfl info_what one_what0 ?_;intro w4 ht4 hg4)
         | fail)
       refine bodyPost_ret (results_cell_tmp rfl _ _ bz 0 rfl [.int .u32 0,.slice none 0 0] _ (rangeAt_row hg4) Tryz.underlying143 rfl info_what) rfl ?_
       rw [HNW.out]
       have hbz4:=hww.trans (ht4.below hww.size (fun k hk e=>by have:=HZ.out;omega))
       exact ⟨none,0,rfl,hbz4,IsB.nil _⟩
/- The package slots: Put;conditions: those typed. -/
def Dsk.fine (D:Dsk) (k:Int):Prop:=0≤D.writes∧D.writes≤k∧D.left≤4294967296
theorem Dsk.fine.ok {D:Dsk} {k:Int} (h:D.fine k) (hk:k≤1000000000000000000):D.ok:=⟨h.1,by have:=h.2.1;omega,by have:=h.2.2;omega⟩
theorem Dsk.fine.write {D:Dsk} {k:Int} (h:D.fine k) (n:Int) (b:List UInt8):(D.write n b).2.fine (k+1):=by
 obtain ⟨h1,h2,h3⟩:=h
 unfold Dsk.write
 split
 · exact ⟨h1,by dsimp only;omega,h3⟩
 · split
   · exact ⟨h1,by dsimp only;omega,h3⟩
   · refine ⟨by dsimp only;omega,by dsimp only;omega,?_⟩
     dsimp only
     split <;> omega
theorem Dsk.fine.mono {D:Dsk} {k k':Int} (h:D.fine k) (hk:k≤k'):D.fine k':=⟨h.1,Int.le_trans h.2.1 hk,h.2.2⟩
theorem Dsk.write_len (D:Dsk) (n:Int) (b:List UInt8):(D.write n b).2.secs.length=D.secs.length:=by
 unfold Dsk.write
 split
 · rfl
 · split
   · rfl
   · simp
def chunk (b:List UInt8) (j:Nat):List UInt8:=(b.drop (64*j)).take 64
def wrs (D:Dsk) (to:Nat) (b:List UInt8):Nat→Int × Dsk
 | 0=>(0,D)
 | j+1=>if (wrs D to b j).1≠0 then wrs D to b j else (wrs D to b j).2.write ((to+j:Nat):Int) (chunk b j)
theorem wrs_stuck (D:Dsk) (to:Nat) (b:List UInt8) (j i:Nat) (h:(wrs D to b j).1≠0):wrs D to b (j+i)=wrs D to b j:=by
 induction i with
 | zero=>rfl
 | succ i ih =>
   show (if (wrs D to b (j+i)).1≠0 then _ else _)=_
   rw [if_pos (by rw [ih];exact h)];exact ih
theorem wrs_fine {D:Dsk} {k:Int} (h:D.fine k) (to:Nat) (b:List UInt8) (j:Nat):(wrs D to b j).2.fine (k+j):=by
 induction j with
 | zero=>exact h.mono (by simp)
 | succ j ih =>
   show (if (wrs D to b j).1≠0 then _ else _:Int × Dsk).2.fine _
   split
   · exact ih.mono (by push_cast;omega)
   · have:=ih.write ((to+j:Nat):Int) (chunk b j)
     refine this.mono (by push_cast;omega)
theorem wrs_len (D:Dsk) (to:Nat) (b:List UInt8) (j:Nat):(wrs D to b j).2.secs.length=D.secs.length:=by
 induction j with
 | zero=>rfl
 | succ j ih =>
   show (if (wrs D to b j).1≠0 then _ else _:Int × Dsk).2.secs.length=_
   split
   · exact ih
   · rw [Dsk.write_len];exact ih
def secsOf (b:List UInt8):Nat:=(b.length+63) / 64
def Dsk.put (D:Dsk) (p:Int) (num:Nat) (b:List UInt8):Int × Dsk :=
 if p<0∨(D.secs.length:Int) - 12<p then (1,D) else
 if 320<b.length then (3,D) else
 if num≤(newestW D p.toNat).1.1 then (10,D) else
 if (wrs D (newestW D p.toNat).2 b (secsOf b)).1≠0 then (8,(wrs D (newestW D p.toNat).2 b (secsOf b)).2) else
 if ((wrs D (newestW D p.toNat).2 b (secsOf b)).2.write ((newestW D p.toNat).2+5:Nat) (mkB num b)).1≠0 then (8,((wrs D (newestW D p.toNat).2 b (secsOf b)).2.write ((newestW D p.toNat).2+5:Nat) (mkB num b)).2) else
 (0,((wrs D (newestW D p.toNat).2 b (secsOf b)).2.write ((newestW D p.toNat).2+5:Nat) (mkB num b)).2)
theorem room_any (w:World):Calls Tryz.prog 146 #[] w fun e w' => e=.returned (.int .i64 12)∧w=w':=by
 go_enter Tryz.func146,Tryz.ntmps146
 go_wp2
 go_ret
 exact ⟨rfl,rfl⟩
theorem no_disk (bd bl:Nat) (D:Dsk) (w:World) (h:IsDisk w bd bl D):Calls Tryz.prog 127 #[.pointer (some ⟨bd,0,none⟩)] w fun e w' => e=.returned (.bool false)∧w=w':=by
 have hp:((D.secs.length:Int) == 0)=false:=by rw [beq_eq_false_iff_ne];have:=h.pos;omega
 go_enter Tryz.func127,Tryz.ntmps127
 go_wp2_with (go_at_call 50;refine (len_disk bd bl D _ h).mono ?_;rintro e w' ⟨rfl,rfl⟩)
 go_ret
 exact ⟨rfl,rfl⟩
theorem there_slot (bd bl:Nat) (D:Dsk) (p:Int) (w:World) (h:IsDisk w bd bl D):Calls Tryz.prog 128 #[.pointer (some ⟨bd,0,none⟩),.int .i64 p] w fun e w' => e=.returned (.bool (decide (¬ (p<0∨(D.secs.length:Int) - 12<p))))∧w=w':=by
 have hm:=h.most
 have hp:=h.pos
 by_cases h0:p<0
 · have d0:decide (0≤p)=false:=decide_eq_false (by omega)
   have d1:decide (¬ (p<0∨(D.secs.length:Int) - 12<p))=false:=decide_eq_false (by omega)
   rw [d1]
   clear d1 h0
   go_enter Tryz.func128,Tryz.ntmps128
   go_wp2
   go_ret
   exact ⟨rfl,rfl⟩
 · have d0:decide (0≤p)=true:=decide_eq_true (by omega)
   by_cases h1:(D.secs.length:Int) - 12<p
   · have d1:decide (p≤(D.secs.length:Int) - 12)=false:=decide_eq_false (by omega)
     have d2:decide (¬ (p<0∨(D.secs.length:Int) - 12<p))=false:=decide_eq_false (by omega)
     rw [d2]
     clear d2 h0 h1
     go_enter Tryz.func128,Tryz.ntmps128
     go_wp2_with (first
       | (go_at_call 50;refine (len_disk bd bl D _ h).mono ?_;rintro e w' ⟨rfl,rfl⟩)
       | (go_at_call 146;refine (room_any _).mono ?_;rintro e w' ⟨rfl,rfl⟩)
       | fail)
     go_ret
     exact ⟨rfl,rfl⟩
   · have d1:decide (p≤(D.secs.length:Int) - 12)=true:=decide_eq_true (by omega)
     have d2:decide (¬ (p<0∨(D.secs.length:Int) - 12<p))=true:=decide_eq_true (by omega)
     rw [d2]
     clear d2 h0 h1
     go_enter Tryz.func128,Tryz.ntmps128
     go_wp2_with (first
       | (go_at_call 50;refine (len_disk bd bl D _ h).mono ?_;rintro e w' ⟨rfl,rfl⟩)
       | (go_at_call 146;refine (room_any _).mono ?_;rintro e w' ⟨rfl,rfl⟩)
       | fail)
     go_ret
     exact ⟨rfl,rfl⟩
/- The package slots: Put;conditions: those typed. -/
theorem newestW_to (D:Dsk) (p:Nat):(newestW D p).2=p∨(newestW D p).2=p+6:=by
 unfold newestW
 split
 · exact .inl rfl
 · split
   · exact .inr rfl
   · exact .inl rfl
theorem newestW_lt {w:World} {bd bl:Nat} {D:Dsk} (h:IsDisk w bd bl D) (p:Nat) (hp:p+12≤D.secs.length):(newestW D p).1.1<4294967296:=by
 have h1:=place_lt D p (secAt_length h _ (by omega))
 have h2:=place_lt D (p+6) (secAt_length h _ (by omega))
 unfold newestW
 split
 · exact h2
 · split
   · exact h1
   · show 0<4294967296;decide
set_option maxRecDepth 100000 in
set_option maxHeartbeats 4000000 in
theorem put_any (bd bl:Nat) (D:Dsk) (p:Int) (num:Nat) (a:Option Addr) (n c:Nat) (b:List UInt8) (k:Int) (w:World) (h:IsDisk w bd bl D) (hb:IsB w a n c b) (hab:∀ x off,a=some ⟨x,off,none⟩→b≠[]→¬ (x=bd∨x=bl)) (hk:D.fine k) (hk2:k≤1000000000000000) (hn:num<4294967296) :
   Calls Tryz.prog 55 #[.pointer (some ⟨bd,0,none⟩),.int .i64 p,.int .u32 num,.slice a n c] w fun e w' => e=.returned (.int .i64 (D.put p num b).1)∧Touch (fun k=>k=bd∨k=bl) w w'∧IsDisk w' bd bl (D.put p num b).2:=by
 obtain rfl:=hb.1
 have hm:=h.most
 have hp:=h.pos
 by_cases hr:p<0∨(D.secs.length:Int) - 12<p
 · have hpl:D.put p num b=(1,D):=if_pos hr
   rw [hpl]
   have d2:decide (¬ (p<0∨(D.secs.length:Int) - 12<p))=false:=decide_eq_false (fun h=>h hr)
   clear hpl hab hb hk hk2 hr
   go_enter Tryz.func55,Tryz.ntmps55
   go_wp2_with (first
     | (go_at_call 127;refine (no_disk bd bl D _ h).mono ?_;rintro e w' ⟨rfl,rfl⟩)
     | (go_at_call 128;refine (there_slot bd bl D p _ h).mono ?_;rintro e w' ⟨rfl,rfl⟩;rw [d2])
     | fail)
   go_ret
   exact ⟨rfl,Touch.refl _ _,h⟩
 have d2:decide (¬ (p<0∨(D.secs.length:Int) - 12<p))=true:=decide_eq_true hr
 by_cases hl:320<b.length
 · have hpl:D.put p num b=(3,D):=by unfold Dsk.put;rw [if_neg hr,if_pos hl]
   rw [hpl]
   have d3:decide ((320:Int)<(b.length:Int))=true:=decide_eq_true (by omega)
   clear hpl hab hb hk hk2 hr hl
   go_enter Tryz.func55,Tryz.ntmps55
   go_wp2_with (first
     | (go_at_call 127;refine (no_disk bd bl D _ h).mono ?_;rintro e w' ⟨rfl,rfl⟩)
     | (go_at_call 128;refine (there_slot bd bl D p _ h).mono ?_;rintro e w' ⟨rfl,rfl⟩;rw [d2])
     | fail)
   go_ret
   exact ⟨rfl,Touch.refl _ _,h⟩
 have d3:decide ((320:Int)<(b.length:Int))=false:=decide_eq_false (by omega)
 obtain ⟨q,rfl⟩:∃ q:Nat,p=(q:Int):=⟨p.toNat,by omega⟩
 have hq:q+12≤D.secs.length:=by omega
 obtain ⟨R,hR⟩:∃ R,R=D.put (q:Int) num b:=⟨_,rfl⟩
 rw [← hR]
 have HPUT:Hid (R=if num≤(newestW D q).1.1 then (10,D) else
     if (wrs D (newestW D q).2 b (secsOf b)).1≠0 then (8,(wrs D (newestW D q).2 b (secsOf b)).2) else
     if ((wrs D (newestW D q).2 b (secsOf b)).2.write ((newestW D q).2+5:Nat) (mkB num b)).1≠0 then (8,((wrs D (newestW D q).2 b (secsOf b)).2.write ((newestW D q).2+5:Nat) (mkB num b)).2) else
     (0,((wrs D (newestW D q).2 b (secsOf b)).2.write ((newestW D q).2+5:Nat) (mkB num b)).2)):=Lib.hid (by rw [hR];unfold Dsk.put;rw [if_neg hr,if_neg hl];rfl)
 have hto:=newestW_to D q
 have hlt:=newestW_lt h q hq
 clear hr hp hR
 have HNEW:Hid (∀ w,IsDisk w bd bl D→Calls Tryz.prog 129 #[.pointer (some ⟨bd,0,none⟩),.int .i64 (q:Int)] w fun e w' => ∃ a c,e=.returned (.tuple #[.agg #[.int .u32 (newestW D q).1.1,.slice a (newestW D q).1.2.length c],.int .i64 (newestW D q).2])∧Below w.heap.size w w'∧IsB w' a (newestW D q).1.2.length c (newestW D q).1.2):=Lib.hid (fun w h=>newest_any bd bl D q (q:Int) w h rfl hq)
 generalize newestW D q=x at HPUT hto hlt HNEW
 obtain ⟨⟨xn,xb⟩,to⟩:=x
 dsimp only at HPUT hto hlt HNEW
 have hlt':xn<4294967296:=hlt
 have hto':to≤q+6:=by rcases hto with h | h <;> omega
 have HTO:=Lib.hid hto'
 have HQ:=Lib.hid hq
 clear hto hlt
 go_enter Tryz.func55,Tryz.ntmps55
 go_wp2_with (first
   | (go_at_call 127;refine (no_disk bd bl D _ h).mono ?_;rintro e w' ⟨rfl,rfl⟩)
   | (go_at_call 128;refine (there_slot bd bl D _ _ h).mono ?_;rintro e w' ⟨rfl,rfl⟩;rw [d2])
   | fail)
 refine (HNEW.out w h).mono ?_;rintro e w1 ⟨xa,xc,rfl,hb1,hi1⟩
 dsimp only at hi1 ⊢
 have hbe:Below w.heap.size w (w1.alloc (.cells #[.int .u32 xn,.slice xa xb.length xc] 143)):=hb1.alloc hb1.size _
 have hv:=heap_new w1 (.cells #[.int .u32 xn,.slice xa xb.length xc] 143 (0,0))
 have hw1s:=hb1.size
 by_cases hold:num≤xn
 · have d4:decide (num≤xn)=true:=decide_eq_true hold
   have HR:Hid (R=(10,D)):=Lib.hid (by rw [HPUT.out,if_pos hold])
   have hd2:=h.touch (Touch.of_below (S:=fun _=>False) hbe) id id
   have ht2:Touch (fun k=>k=bd∨k=bl) w (w1.alloc (.cells #[.int .u32 xn,.slice xa xb.length xc] 143)):=Touch.of_below hbe
   clear HPUT hi1 hb1 hold hab hb hk hbe
   go_wp2_with fail
   go_ret
   rw [HR.out]
   exact ⟨rfl,ht2,hd2⟩
 have d4:decide (num≤xn)=false:=decide_eq_false hold
 have HR:Hid (R=if (wrs D to b (secsOf b)).1≠0 then (8,(wrs D to b (secsOf b)).2) else
     if ((wrs D to b (secsOf b)).2.write (to+5:Nat) (mkB num b)).1≠0 then (8,((wrs D to b (secsOf b)).2.write (to+5:Nat) (mkB num b)).2) else
     (0,((wrs D to b (secsOf b)).2.write (to+5:Nat) (mkB num b)).2)):=Lib.hid (by rw [HPUT.out,if_neg hold])
 clear HPUT hi1 hb1 hold
 go_wp2_with fail
 have hd2:=h.touch (Touch.of_below (S:=fun _=>False) hbe) id id
 have hb2:=hb.below hbe
 have ht2:Touch (fun k=>k=bd∨k=bl) w (w1.alloc (.cells #[.int .u32 xn,.slice xa xb.length xc] 143)):=Touch.of_below hbe
 generalize w1.alloc (.cells #[.int .u32 xn,.slice xa xb.length xc] 143)=w2 at hd2 hb2 ht2 ⊢
 clear hv hbe h hb HNEW
 obtain ⟨N,hN⟩:∃ N,N=b.length+64:=⟨_,rfl⟩
 have HN:=Lib.hid hN
 clear hN
 have HAB:=Lib.hid hab
 clear hab
 go_loopw [11] (fun i wr => ∃ j qq:Nat,Hid (qq=64*j)∧j≤secsOf b∧i=.int .i64 qq∧Hid ((wrs D to b j).1=0)∧Hid (IsDisk wr bd bl (wrs D to b j).2)∧Hid (Touch (fun k=>k=bd∨k=bl) w wr)∧Hid (IsB wr a b.length c b)) (fun i _=>N - (intOf i).toNat)
 case atStart=>exact ⟨0,0,Lib.hid rfl,Nat.zero_le _,rfl,Lib.hid rfl,Lib.hid hd2,Lib.hid ht2,Lib.hid hb2⟩
 case round =>
   obtain ⟨j,qq,hqq,hj,rfl,he,hd,ht,hbb⟩:=hrel
   have hsec:secsOf b*64≤b.length+63:=by unfold secsOf;omega
   have hqb:qq≤384:=by have:=hqq.out;omega
   by_cases hlt:qq<b.length
   · obtain ⟨r,hr1,hr64,hra,hrb,hrc⟩:∃ r,qq+r≤b.length∧r≤64∧((b.length:Int)≤(qq:Int)+64→b.length - qq=r)∧((qq:Int)+64<(b.length:Int)→((qq:Int)+64).toNat - qq=r)∧chunk b j=(b.drop qq).take r:=by
       by_cases h1:b.length≤qq+64
       · refine ⟨b.length - qq,by omega,by omega,fun _=>rfl,fun h=>by omega,?_⟩
         unfold chunk
         rw [← hqq.out,List.take_of_length_le (by simp;omega),List.take_of_length_le (by simp)]
       · refine ⟨64,by omega,by omega,fun h=>by omega,fun h=>by omega,?_⟩
         unfold chunk
         rw [← hqq.out]
     obtain ⟨ab,ao,rfl⟩:=hbb.out.nonnil (by omega)
     have hcl:b.length≤c:=hbb.out.2.1
     have hsub:=hbb.out.sub qq r (c - qq) hr1 (by omega) (by omega)
     have hjs:j<secsOf b:=by unfold secsOf;have:=hqq.out;omega
     have HRC:=Lib.hid hrc
     clear hrc
     have hqd:(to:Int)+(qq:Int) / 64=((to+j:Nat):Int):=by have:=hqq.out;omega
     have HQD:=Lib.hid hqd
     have HRA:=Lib.hid hra
     have HRB:=Lib.hid hrb
     have hfj:=wrs_fine hk to b j
     have hsec5:secsOf b≤6:=by unfold secsOf;omega
     have hok:=hfj.ok (by omega)
     have hb1:Hid (wrs D to b (j+1)=(wrs D to b j).2.write ((to+j:Nat):Int) (chunk b j)):=Lib.hid (if_neg (fun h=>h he.out))
     have HOK:=Lib.hid hok
     clear hqd hra hrb hfj hok
     go_wp2_with fail
     all_goals
       rw [HQD.out]
       first
         | rw [HRA.out (by omega)]
         | rw [HRB.out (by omega)]
       refine (write_any bd bl (wrs D to b j).2 ((to+j:Nat):Int) _ r (c - qq) (chunk b j) wr hd.out (by rw [HRC.out];exact hsub) HOK.out).mono ?_;rintro e w3 ⟨rfl,ht3,hd3⟩
       rw [← hb1.out] at hd3 ⊢
       have ht3':=ht.out.trans ht3
       have hb3:=hbb.out.touch ht3 (fun x off h hl=>HAB.out x off h hl)
       by_cases he1:(wrs D to b (j+1)).1=0
       · have hd1:((wrs D to b (j+1)).1 != 0)=false:=by rw [he1];rfl
         have HE1:=Lib.hid he1
         clear he1
         go_wp2_with fail
         go_roundw
         case rel=>exact ⟨j+1,qq+64,Lib.hid (by have:=hqq.out;omega),by omega,by go_num,HE1,Lib.hid hd3,Lib.hid ht3',Lib.hid hb3⟩
         case measure=>have:=HN.out;simp [intOf];omega
       · have hd1:((wrs D to b (j+1)).1 != 0)=true:=by rw [bne_iff_ne];exact he1
         have HE1:=Lib.hid he1
         obtain ⟨i,hi⟩:∃ i,secsOf b=j+1+i:=⟨secsOf b - (j+1),by omega⟩
         have hst:=wrs_stuck D to b (j+1) i he1
         rw [← hi] at hst
         have HRR:Hid (R=(8,(wrs D to b (j+1)).2)):=Lib.hid (by rw [HR.out,if_pos (by rw [hst];exact HE1.out),hst])
         clear he1 hst hi
         go_wp2_with fail
         go_ret
         rw [HRR.out]
         exact ⟨rfl,ht3',hd3⟩
   · have hjj:j=secsOf b:=by unfold secsOf at hj ⊢;have:=hqq.out;omega
     subst hjj
     have hfj:=wrs_fine hk to b (secsOf b)
     have hsec5:secsOf b≤6:=by unfold secsOf;omega
     have HOK:=Lib.hid (hfj.ok (by omega))
     have ht5:(to:Int)+5=((to+5:Nat):Int):=by omega
     have HT5:=Lib.hid ht5
     have HE:=he
     clear hfj ht5 hqq hj hsec
     generalize hjj:secsOf b=J at HE hd HOK hsec5
     rw [hjj] at HR he
     clear hjj he
     go_wp2_with (first
       | (go_at_call 132;refine (mark_any num hn a b.length c b wr hbb.out (by omega)).mono ?_;rintro e w3 ⟨ma,rfl,hb3,hi3⟩)
       | fail)
     have hd3:=hd.out.touch (Touch.of_below (S:=fun _=>False) hb3) id id
     have ht3:=ht.out.trans (Touch.of_below hb3)
     rw [HT5.out]
     refine (write_any bd bl (wrs D to b J).2 ((to+5:Nat):Int) ma 10 10 (mkB num b) w3 hd3 hi3 HOK.out).mono ?_;rintro e w4 ⟨rfl,ht4,hd4⟩
     have ht4':=ht3.trans ht4
     generalize ((wrs D to b J).2.write ((to+5:Nat):Int) (mkB num b))=W at hd4 HR ⊢
     have hneg:¬ (wrs D to b J).1≠0:=fun h=>h HE.out
     by_cases he1:W.1=0
     · have hd1:(W.1 != 0)=false:=by rw [he1];rfl
       have HRR:Hid (R=(0,W.2)):=Lib.hid (by rw [HR.out,if_neg hneg,if_neg (by rw [he1];simp)])
       clear he1 hneg
       go_wp2_with fail
       go_ret
       rw [HRR.out]
       exact ⟨rfl,ht4',hd4⟩
     · have hd1:(W.1 != 0)=true:=by rw [bne_iff_ne];exact he1
       have HRR:Hid (R=(8,W.2)):=Lib.hid (by rw [HR.out,if_neg hneg,if_pos he1])
       clear he1 hneg
       go_wp2_with fail
       go_ret
       rw [HRR.out]
       exact ⟨rfl,ht4',hd4⟩
end Go.Proofs.YtgbikngicidbkaaGreatDoor
