/- The package markets: Check;conditions: those typed. -/
import Derived.Test.YtmmmjohoihpbeaaGreatQOMOrd
import Derived.Test.YtmmmjohoihpbeaaGreatQOGStGetGStTwJwTl
import Derived.Test.YtmmmjohoihpbeaaGreatQOGStCGStCloStArg2
namespace Go.Proofs.YtmmmjohoihpbeaaGreat
open Go.RowKit
set_option linter.unusedVariables false
set_option linter.unusedSimpArgs false
def bidB (items:Int) (l:List Int):Bool:=decide (l.length=0) || okB l items
set_option maxHeartbeats 4000000 in
theorem mchk1_any (bx:Nat) (items:Int) (a:Option Addr) (n c:Nat) (l:List Int) (w:World) (hx:w.cell? ⟨bx,0,none⟩=some (.int .i64 items)) (hi:0≤items∧items≤4611686018427387904) (hI:IsI w a n c l) :
   Calls Tryz.prog 45 #[.slice a n c,.pointer (some ⟨bx,0,none⟩)] w fun e w' => e=.returned (.bool (!bidB items l))∧Below w.heap.size w w':=by
 obtain rfl:=hI.1
 have HI:=Lib.hid hI
 clear hI
 go_enter Tryz.func45,Tryz.ntmps45
 by_cases h0:l.length=0
 · have HB:Hid (bidB items l=true):=Lib.hid (by unfold bidB;rw [decide_eq_true h0];rfl)
   rw [h0] at *
   go_wp2_with fail
   go_ret
   exact ⟨by rw [HB.out];rfl,Below.refl _ _⟩
 · have HB:Hid (bidB items l=okB l items):=Lib.hid (by unfold bidB;rw [decide_eq_false h0];rfl)
   have d1:decide ((0:Int)<(l.length:Int))=true:=decide_eq_true (by omega)
   have d2:decide (0<l.length)=true:=decide_eq_true (by omega)
   clear h0
   go_wp2_with fail
   refine (vcheck_any a l.length c l items w HI.out ⟨by omega,hi.2⟩).mono ?_;rintro e w1 ⟨rfl,hb1⟩
   have HB1:=Lib.hid hb1
   clear hb1
   generalize hq:okB l items=q at HB ⊢
   clear hq
   go_wp2_with fail
   go_ret
   exact ⟨by rw [HB.out];rfl,HB1.out⟩
set_option maxRecDepth 100000 in
set_option maxHeartbeats 4000000 in
theorem midx_any (P:Nat→Prop) (bx:Nat) (items:Int) (a:Option Addr) (n c:Nat) (vs:List Value) (L:List (List Int)) (w:World) (hx:w.cell? ⟨bx,0,none⟩=some (.int .i64 items)) (hi:0≤items∧items≤4611686018427387904) (hbx:bx<w.heap.size) (h:IsIIp w P a n c vs L) :
   Calls Tryz.prog 64 #[.slice a n c,.func (.func 45) #[] #[.pointer (some ⟨bx,0,none⟩)]] w fun e w' => (∃ i:Int,e=.returned (.int .i64 i)∧decide (0≤i) = !L.all (bidB items))∧Below w.heap.size w w':=by
 obtain ⟨rfl,h1,h2,hv,hc⟩:=h
 have hm:L.length≤9223372036854775807:=by unfold maxLen at h2;omega
 have HC:Hid (∀ k (h:k<L.length),∃ b off x y z,a=some ⟨b,off,none⟩∧b<w.heap.size∧w.cell? ⟨b,off+k,none⟩=some (.slice x y z)∧IsI w x y z L[k]):=Lib.hid (fun k hk=>by
   rcases hc with h0 | ⟨b,off,rfl,_,hlt,hc⟩
   · rw [h0] at hk;simp at hk
   · obtain ⟨x,y,z,h3,h4⟩:=hv.2 k hk
     have hkv:k<vs.length:=by rw [hv.1];exact hk
     rw [List.getElem?_eq_getElem hkv] at h3
     have:=hc k hkv
     rw [Option.some.inj h3] at this
     exact ⟨b,off,x,y,z,rfl,hlt,this,h4.1⟩)
 clear h1 h2 hv hc
 obtain ⟨N,hN⟩:∃ N,N=L.length:=⟨_,rfl⟩
 have HN:=Lib.hid hN
 have HX:=Lib.hid hx
 clear hN hx
 go_enter Tryz.func64,Tryz.ntmps64
 go_wp2_with fail
 go_loopw [8] (fun i wr => ∃ k:Nat,k≤L.length∧i=.int .i64 k∧Hid (Below w.heap.size w wr∧∀ j (hj:j<L.length),j<k→bidB items L[j]=true)) (fun i _=>N - (intOf i).toNat)
 case atStart=>exact ⟨0,Nat.zero_le _,rfl,Lib.hid ⟨Below.refl _ _,fun j hj h=>by omega⟩⟩
 case round =>
   obtain ⟨k,hk,rfl,HS⟩:=hrel
   by_cases hlt:k<L.length
   · obtain ⟨b,off,x,y,z,rfl,hblt,hcell,hb⟩:=HC.out k hlt
     have ck:wr.cell? ⟨b,off+k,none⟩=some (.slice x y z):=(HS.out.1.cell (p:=⟨b,off+k,none⟩) hblt).trans hcell
     have hbn:=hb.1
     have hsec:Hid (bidB items L[k]=true→∀ j (hj:j<L.length),j<k+1→bidB items L[j]=true):=Lib.hid (fun hs j hj h=>by
       by_cases hjk:j=k
       · subst hjk;exact hs
       · exact HS.out.2 j hj (by omega))
     have hbad:Hid (bidB items L[k]=false→L.all (bidB items)=false):=Lib.hid (fun hs=>by
       rw [Bool.eq_false_iff]
       intro e
       have:=(List.all_eq_true.1 e) L[k] (List.getElem_mem hlt)
       rw [hs] at this;cases this)
     have hbw:Hid (IsI wr x y z L[k]):=Lib.hid (hb.below HS.out.1)
     have hxw:Hid (wr.cell? ⟨bx,0,none⟩=some (.int .i64 items)):=Lib.hid ((HS.out.1.cell (p:=⟨bx,0,none⟩) hbx).trans HX.out)
     generalize L[k]=lk at hb hbn hsec hbad hbw
     have HBN:=Lib.hid hbn
     clear hb hbn hcell
     go_wp2_with fail
     refine (mchk1_any bx items x y z lk wr hxw.out hi hbw.out).mono ?_;rintro e w1 ⟨rfl,hb1⟩
     have HB1:=Lib.hid (HS.out.1.trans (hb1.mono HS.out.1.size))
     clear hb1 ck
     cases hq:bidB items lk with
     | true =>
       have HS2:Hid (Below w.heap.size w w1∧∀ j (hj:j<L.length),j<k+1→bidB items L[j]=true):=Lib.hid ⟨HB1.out,hsec.out hq⟩
       clear hq
       go_wp2_with fail
       go_roundw
       case rel=>exact ⟨k+1,by omega,by go_num,HS2⟩
       case measure=>have:=HN.out;simp [intOf];omega
     | false =>
       have HA:=Lib.hid (hbad.out hq)
       clear hq
       go_wp2_with fail
       go_ret
       exact ⟨⟨k,rfl,by rw [HA.out];simp⟩,HB1.out⟩
   · have hkk:k=L.length:=by omega
     have HA:Hid (L.all (bidB items)=true):=Lib.hid (List.all_eq_true.2 (fun x hx=>by obtain ⟨i,hi,rfl⟩:=List.getElem_of_mem hx;exact HS.out.2 i hi (by omega)))
     subst hkk
     go_wp2_with fail
     go_ret
     exact ⟨⟨-1,rfl,by rw [HA.out];rfl⟩,HS.out.1⟩
theorem mcontains_any (P:Nat→Prop) (bx:Nat) (items:Int) (a:Option Addr) (n c:Nat) (vs:List Value) (L:List (List Int)) (w:World) (hx:w.cell? ⟨bx,0,none⟩=some (.int .i64 items)) (hi:0≤items∧items≤4611686018427387904) (hbx:bx<w.heap.size) (h:IsIIp w P a n c vs L) :
   Calls Tryz.prog 44 #[.slice a n c,.func (.func 45) #[] #[.pointer (some ⟨bx,0,none⟩)]] w fun e w' => e=.returned (.bool (!L.all (bidB items)))∧Below w.heap.size w w':=by
 go_enter Tryz.func44,Tryz.ntmps44
 go_wp2_with fail
 refine (midx_any P bx items a n c vs L w hx hi hbx h).mono ?_;rintro e w1 ⟨⟨i,rfl,hi⟩,hb1⟩
 have HI:=Lib.hid hi
 clear hi h hx
 go_wp2_with fail
 go_ret
 exact ⟨by rw [← HI.out];rfl,hb1⟩
structure MkC where
 r:List Int
 b:List (List Int)
 o:List Int
structure MkA where
 ra:Option Addr
 rn:Nat
 rc:Nat
 ba:Option Addr
 bn:Nat
 bc:Nat
 bv:List Value
 oa:Option Addr
 on:Nat
 oc:Nat
def MkA.cells (x:MkA):List Value:=[.slice x.ra x.rn x.rc,.slice x.ba x.bn x.bc,.slice x.oa x.on x.oc]
structure IsMk (w:World) (P:Nat→Prop) (x:MkA) (m:MkC):Prop where
 r:IsIp w P x.ra x.rn x.rc m.r
 b:IsIIp w P x.ba x.bn x.bc x.bv m.b
 o:IsIp w P x.oa x.on x.oc m.o
theorem IsMk.below {P:Nat→Prop} {w w':World} {x:MkA} {m:MkC} (h:IsMk w P x m) (hb:Below w.heap.size w w'):IsMk w' P x m:=⟨h.r.below hb,h.b.below hb,h.o.below hb⟩
def mktB (m:MkC):Bool:=okB m.r m.r.length && (decide (1≤m.b.length) && (decide (m.b.length≤8) && (ordC m.b.length m.o && m.b.all (bidB m.r.length))))
set_option maxRecDepth 100000 in
set_option maxHeartbeats 8000000 in
theorem mcheck_any (P:Nat→Prop) (x:MkA) (m:MkC) (w:World) (h:IsMk w P x m) (hrm:m.r.length≤4611686018427387904) :
   Calls Tryz.prog 19 #[.agg x.cells.toArray] w fun e w' => e=.returned (.bool (mktB m))∧Below w.heap.size w w':=by
 obtain ⟨ra,rn,rc,ba,bn,bc,bv,oa,on,oc⟩:=x
 obtain ⟨hr,hb,ho⟩:=h
 unfold MkA.cells
 dsimp only at hr hb ho ⊢
 obtain rfl:rn=m.r.length:=hr.1.1
 obtain rfl:bn=m.b.length:=hb.1
 obtain rfl:on=m.o.length:=ho.1.1
 have hb0:Below w.heap.size w (w.alloc (.cells #[.slice ra m.r.length rc,.slice ba m.b.length bc,.slice oa m.o.length oc] 25)):=(Below.refl _ _).alloc (Nat.le_refl _) _
 have hv:=heap_new w (.cells #[.slice ra m.r.length rc,.slice ba m.b.length bc,.slice oa m.o.length oc] 25 (0,0))
 have HRI:=Lib.hid (hr.1.below hb0)
 have HBI:=Lib.hid (hb.below hb0)
 have HOI:=Lib.hid (ho.1.below hb0)
 clear hr hb ho
 go_enter Tryz.func19,Tryz.ntmps19
 go_wp2_with fail
 generalize w.alloc (.cells #[.slice ra m.r.length rc,.slice ba m.b.length bc,.slice oa m.o.length oc] 25)=W at hb0 hv HRI HBI HOI ⊢
 have c0:W.cell? ⟨w.heap.size,0,none⟩=some (.slice ra m.r.length rc):=by rw [cell_of_block hv];rfl
 have c1:W.cell? ⟨w.heap.size,1,none⟩=some (.slice ba m.b.length bc):=by rw [cell_of_block hv];rfl
 have c2:W.cell? ⟨w.heap.size,2,none⟩=some (.slice oa m.o.length oc):=by rw [cell_of_block hv];rfl
 have HB0:=Lib.hid hb0
 have HV:=Lib.hid hv
 clear hb0 hv
 have e0:=cell_alloc c0 (.cells #[.int .i64 0] 3 (0,0))
 have e1:=cell_alloc c1 (.cells #[.int .i64 0] 3 (0,0))
 have e0':=cell_alloc c0 (.cells #[.int .i64 (m.r.length:Int)] 3 (0,0))
 have e1':=cell_alloc c1 (.cells #[.int .i64 (m.r.length:Int)] 3 (0,0))
 go_region
 have hbA:Below W.heap.size W (W.alloc (.cells #[.int .i64 (m.r.length:Int)] 3 (0,0))).drew:=((Below.refl _ _).alloc (Nat.le_refl _) _).drew
 have vA:=heap_new W (.cells #[.int .i64 (m.r.length:Int)] 3 (0,0))
 have vA':(W.alloc (.cells #[.int .i64 (m.r.length:Int)] 3 (0,0))).drew.heap[W.heap.size]?=some (.cells #[.int .i64 (m.r.length:Int)] 3 (0,0)):=vA
 generalize (W.alloc (.cells #[.int .i64 (m.r.length:Int)] 3 (0,0))).drew=U at hbA vA' ⊢
 have HB1:=Lib.hid (HB0.out.trans (hbA.mono HB0.out.size))
 have HU:=Lib.hid vA'
 have HR1:=Lib.hid (HRI.out.below hbA)
 have HBI1:=Lib.hid (HBI.out.below hbA)
 have HO1:=Lib.hid (HOI.out.below hbA)
 have u0:U.cell? ⟨w.heap.size,0,none⟩=some (.slice ra m.r.length rc):=cell_later hbA c0
 have u1:U.cell? ⟨W.heap.size,0,none⟩=some (.int .i64 (m.r.length:Int)):=by rw [cell_of_block vA'];rfl
 have HC1:=Lib.hid (cell_later hbA c1)
 have HC2:=Lib.hid (cell_later hbA c2)
 clear e0 e1 e0' e1' c0 c1 c2 hbA vA vA' HRI HBI HOI HB0 HV
 go_wp2_with fail
 refine (vcheck_any ra m.r.length rc m.r (m.r.length:Int) U HR1.out ⟨by omega,by omega⟩).mono ?_;rintro e w1 ⟨rfl,hb1⟩
 have HB2:=Lib.hid (HB1.out.trans (hb1.mono HB1.out.size))
 have HBI2:=Lib.hid (HBI1.out.below hb1)
 have HO2:=Lib.hid (HO1.out.below hb1)
 have HU2:Hid (w1.cell? ⟨W.heap.size,0,none⟩=some (.int .i64 (m.r.length:Int))):=Lib.hid (cell_later hb1 u1)
 have k1:w1.cell? ⟨w.heap.size,1,none⟩=some (.slice ba m.b.length bc):=cell_later hb1 HC1.out
 have k2:w1.cell? ⟨w.heap.size,2,none⟩=some (.slice oa m.o.length oc):=cell_later hb1 HC2.out
 have HLT:Hid (W.heap.size<w1.heap.size):=Lib.hid (Nat.lt_of_lt_of_le (lt_of_heap HU.out) hb1.size)
 clear hb1 u0 u1 HC1 HC2 HB1 HBI1 HO1 HR1 HU
 have HQ:Hid (mktB m=(okB m.r m.r.length && (decide (1≤m.b.length) && (decide (m.b.length≤8) && (ordC m.b.length m.o && m.b.all (bidB m.r.length)))))):=Lib.hid rfl
 cases q1:okB m.r m.r.length with
 | false =>
   have HQ2:Hid (mktB m=false):=Lib.hid (by rw [HQ.out,q1];rfl)
   clear q1
   go_wp2_with fail
   go_ret
   exact ⟨by rw [HQ2.out];rfl,HB2.out⟩
 | true =>
 by_cases q2:1≤m.b.length
 case neg =>
   have HQ2:Hid (mktB m=false):=Lib.hid (by rw [HQ.out,q1,decide_eq_false q2];rfl)
   have d1:decide ((1:Int)≤(m.b.length:Int))=false:=decide_eq_false (by omega)
   have d2:decide (1≤m.b.length)=false:=decide_eq_false q2
   clear q1 q2
   go_wp2_with fail
   go_ret
   exact ⟨by rw [HQ2.out];rfl,HB2.out⟩
 case pos =>
 by_cases q3:m.b.length≤8
 case neg =>
   have HQ2:Hid (mktB m=false):=Lib.hid (by rw [HQ.out,q1,decide_eq_true q2,decide_eq_false q3];rfl)
   have d1:decide ((1:Int)≤(m.b.length:Int))=true:=decide_eq_true (by omega)
   have d2:decide (1≤m.b.length)=true:=decide_eq_true q2
   have d3:decide ((m.b.length:Int)≤8)=false:=decide_eq_false (by omega)
   have d4:decide (m.b.length≤8)=false:=decide_eq_false q3
   clear q1 q2 q3
   go_wp2_with fail
   go_ret
   exact ⟨by rw [HQ2.out];rfl,HB2.out⟩
 case pos =>
   have HQ2:Hid (mktB m=(ordC m.b.length m.o && m.b.all (bidB m.r.length))):=Lib.hid (by rw [HQ.out,q1,decide_eq_true q2,decide_eq_true q3];rfl)
   have d1:decide ((1:Int)≤(m.b.length:Int))=true:=decide_eq_true (by omega)
   have d2:decide (1≤m.b.length)=true:=decide_eq_true q2
   have d3:decide ((m.b.length:Int)≤8)=true:=decide_eq_true (by omega)
   have d4:decide (m.b.length≤8)=true:=decide_eq_true q3
   have H8:=Lib.hid q3
   clear q1 q2 q3 HQ
   go_wp2_with fail
   refine (mord_any oa m.o.length oc m.o m.b.length H8.out w1 HO2.out).mono ?_;rintro e w2 ⟨rfl,hb2⟩
   have HB3:=Lib.hid (HB2.out.trans (hb2.mono HB2.out.size))
   have HBI3:=Lib.hid (HBI2.out.below hb2)
   have HU3:Hid (w2.cell? ⟨W.heap.size,0,none⟩=some (.int .i64 (m.r.length:Int))):=Lib.hid (cell_later hb2 HU2.out)
   have HLT3:Hid (W.heap.size<w2.heap.size):=Lib.hid (Nat.lt_of_lt_of_le HLT.out hb2.size)
   have j1:w2.cell? ⟨w.heap.size,1,none⟩=some (.slice ba m.b.length bc):=cell_later hb2 k1
   clear hb2 k1 k2 HB2 HBI2 HO2 HU2 HLT
   cases q4:ordC m.b.length m.o with
   | false =>
     have HQ3:Hid (mktB m=false):=Lib.hid (by rw [HQ2.out,q4];rfl)
     clear q4
     go_wp2_with fail
     go_ret
     exact ⟨by rw [HQ3.out];rfl,HB3.out⟩
   | true =>
     have HQ3:Hid (mktB m=m.b.all (bidB m.r.length)):=Lib.hid (by rw [HQ2.out,q4];rfl)
     clear q4
     go_wp2_with fail
     refine (mcontains_any P W.heap.size (m.r.length:Int) ba m.b.length bc bv m.b w2 HU3.out ⟨by omega,by omega⟩ HLT3.out HBI3.out).mono ?_;rintro e w3 ⟨rfl,hb3⟩
     have HB4:=Lib.hid (HB3.out.trans (hb3.mono HB3.out.size))
     clear hb3 j1
     generalize hq:m.b.all (bidB m.r.length)=q at HQ3 ⊢
     clear hq
     go_wp2_with fail
     go_ret
     exact ⟨by rw [HQ3.out];simp,HB4.out⟩
section
open Go.ChangeShapes Go.WideShapes Go.ChangeAt Go.RowKit Go.Deep
set_option maxRecDepth 100000
structure IvX where
 a:Option Addr
 n:Nat
 c:Nat
 l:List Int
instance : Inhabited IvX := ⟨⟨none, 0, 0, []⟩⟩
def IvX.cells (x:IvX):List Value:=[.slice x.a x.n x.c]
theorem iiP_of_rows {w:World} {a:Option Addr} {n c:Nat} {L:List IvX} (h:IsRows IvX.cells 1 w a n c L) (hR:∀ x ∈ L,IsI w x.a x.n x.c x.l):∃ vs,IsIIp w (fun _=>True) a n c vs (L.map (·.l)):=by
 obtain ⟨h1,h2,h3,h4⟩:=h
 refine ⟨L.map fun x=>.slice x.a x.n x.c,by simpa using h1,by simpa [← h1] using h2,h3,⟨by simp,fun i hi => ?_⟩,?_⟩
 · have hi':i<L.length:=by simpa using hi
   refine ⟨L[i].a,L[i].n,L[i].c,by simp [hi'],?_,fun _ _ _ _=>trivial⟩
   rw [List.getElem_map]
   exact hR _ (List.getElem_mem hi')
 · rcases h4 with h4 | ⟨b,off,rfl,hlt,hc⟩
   · left;rw [h4];rfl
   · refine .inr ⟨b,off,rfl,trivial,hlt,fun i hi => ?_⟩
     have hi':i<L.length:=by simpa using hi
     have:=hc i hi' 0 (.slice L[i].a L[i].n L[i].c) rfl
     rw [Nat.mul_one,Nat.add_zero] at this
     rw [this];simp
end
end Go.Proofs.YtmmmjohoihpbeaaGreat
