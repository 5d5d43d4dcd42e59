/- The package markets: Check;conditions: those typed. -/
import Derived.Test.YtgbikngicidbkaaGreatDoorQMOrd
import Derived.Test.YtgbikngicidbkaaGreatDoorQGStGet
import Derived.Test.YtgbikngicidbkaaGreatDoorQGStTwStTRStOpnStGrtStCfgStGrtE
import Derived.Test.YtgbikngicidbkaaGreatDoorQGDisksDisksA
import Derived.Test.YtgbikngicidbkaaGreatDoorQTwinCTwinCfg
namespace Go.Proofs.YtgbikngicidbkaaGreatDoor
open Go.RowKit
set_option linter.unusedVariables false
set_option linter.unusedSimpArgs false
def bidB (items:Int) (l:List Int):Bool:=decide (l.length=0) || okB l items
set_option maxHeartbeats 4000000 in
theorem mchk1_any (bx:Nat) (items:Int) (a:Option Addr) (n c:Nat) (l:List Int) (w:World) (hx:w.cell? ⟨bx,0,none⟩=some (.int .i64 items)) (hi:0≤items∧items≤4611686018427387904) (hI:IsI w a n c l) :
   Calls Tryz.prog 165 #[.slice a n c,.pointer (some ⟨bx,0,none⟩)] w fun e w' => e=.returned (.bool (!bidB items l))∧Below w.heap.size w w':=by
 obtain rfl:=hI.1
 have HI:=Lib.hid hI
 clear hI
 go_enter Tryz.func165,Tryz.ntmps165
 by_cases h0:l.length=0
 · have HB:Hid (bidB items l=true):=Lib.hid (by unfold bidB;rw [decide_eq_true h0];rfl)
   rw [h0] at *
   go_wp2_with fail
   go_ret
   exact ⟨by rw [HB.out];rfl,Below.refl _ _⟩
 · have HB:Hid (bidB items l=okB l items):=Lib.hid (by unfold bidB;rw [decide_eq_false h0];rfl)
   have d1:decide ((0:Int)<(l.length:Int))=true:=decide_eq_true (by omega)
   have d2:decide (0<l.length)=true:=decide_eq_true (by omega)
   clear h0
   go_wp2_with fail
   refine (vcheck_any a l.length c l items w HI.out ⟨by omega,hi.2⟩).mono ?_;rintro e w1 ⟨rfl,hb1⟩
   have HB1:=Lib.hid hb1
   clear hb1
   generalize hq:okB l items=q at HB ⊢
   clear hq
   go_wp2_with fail
   go_ret
   exact ⟨by rw [HB.out];rfl,HB1.out⟩
set_option maxRecDepth 100000 in
set_option maxHeartbeats 4000000 in
theorem midx_any (P:Nat→Prop) (bx:Nat) (items:Int) (a:Option Addr) (n c:Nat) (vs:List Value) (L:List (List Int)) (w:World) (hx:w.cell? ⟨bx,0,none⟩=some (.int .i64 items)) (hi:0≤items∧items≤4611686018427387904) (hbx:bx<w.heap.size) (h:IsIIp w P a n c vs L) :
   Calls Tryz.prog 198 #[.slice a n c,.func (.func 165) #[] #[.pointer (some ⟨bx,0,none⟩)]] w fun e w' => (∃ i:Int,e=.returned (.int .i64 i)∧decide (0≤i) = !L.all (bidB items))∧Below w.heap.size w w':=by
 obtain ⟨rfl,h1,h2,hv,hc⟩:=h
 have hm:L.length≤9223372036854775807:=by unfold maxLen at h2;omega
 have HC:Hid (∀ k (h:k<L.length),∃ b off x y z,a=some ⟨b,off,none⟩∧b<w.heap.size∧w.cell? ⟨b,off+k,none⟩=some (.slice x y z)∧IsI w x y z L[k]):=Lib.hid (fun k hk=>by
   rcases hc with h0 | ⟨b,off,rfl,_,hlt,hc⟩
   · rw [h0] at hk;simp at hk
   · obtain ⟨x,y,z,h3,h4⟩:=hv.2 k hk
     have hkv:k<vs.length:=by rw [hv.1];exact hk
     rw [List.getElem?_eq_getElem hkv] at h3
     have:=hc k hkv
     rw [Option.some.inj h3] at this
     exact ⟨b,off,x,y,z,rfl,hlt,this,h4.1⟩)
 clear h1 h2 hv hc
 obtain ⟨N,hN⟩:∃ N,N=L.length:=⟨_,rfl⟩
 have HN:=Lib.hid hN
 have HX:=Lib.hid hx
 clear hN hx
 go_enter Tryz.func198,Tryz.ntmps198
 go_wp2_with fail
 go_loopw [8] (fun i wr => ∃ k:Nat,k≤L.length∧i=.int .i64 k∧Hid (Below w.heap.size w wr∧∀ j (hj:j<L.length),j<k→bidB items L[j]=true)) (fun i _=>N - (intOf i).toNat)
 case atStart=>exact ⟨0,Nat.zero_le _,rfl,Lib.hid ⟨Below.refl _ _,fun j hj h=>by omega⟩⟩
 case round =>
   obtain ⟨k,hk,rfl,HS⟩:=hrel
   by_cases hlt:k<L.length
   · obtain ⟨b,off,x,y,z,rfl,hblt,hcell,hb⟩:=HC.out k hlt
     have ck:wr.cell? ⟨b,off+k,none⟩=some (.slice x y z):=(HS.out.1.cell (p:=⟨b,off+k,none⟩) hblt).trans hcell
     have hbn:=hb.1
     have hsec:Hid (bidB items L[k]=true→∀ j (hj:j<L.length),j<k+1→bidB items L[j]=true):=Lib.hid (fun hs j hj h=>by
       by_cases hjk:j=k
       · subst hjk;exact hs
       · exact HS.out.2 j hj (by omega))
     have hbad:Hid (bidB items L[k]=false→L.all (bidB items)=false):=Lib.hid (fun hs=>by
       rw [Bool.eq_false_iff]
       intro e
       have:=(List.all_eq_true.1 e) L[k] (List.getElem_mem hlt)
       rw [hs] at this;cases this)
     have hbw:Hid (IsI wr x y z L[k]):=Lib.hid (hb.below HS.out.1)
     have hxw:Hid (wr.cell? ⟨bx,0,none⟩=some (.int .i64 items)):=Lib.hid ((HS.out.1.cell (p:=⟨bx,0,none⟩) hbx).trans HX.out)
     generalize L[k]=lk at hb hbn hsec hbad hbw
     have HBN:=Lib.hid hbn
     clear hb hbn hcell
     go_wp2_with fail
     refine (mchk1_any bx items x y z lk wr hxw.out hi hbw.out).mono ?_;rintro e w1 ⟨rfl,hb1⟩
     have HB1:=Lib.hid (HS.out.1.trans (hb1.mono HS.out.1.size))
     clear hb1 ck
     cases hq:bidB items lk with
     | true =>
       have HS2:Hid (Below w.heap.size w w1∧∀ j (hj:j<L.length),j<k+1→bidB items L[j]=true):=Lib.hid ⟨HB1.out,hsec.out hq⟩
       clear hq
       go_wp2_with fail
       go_roundw
       case rel=>exact ⟨k+1,by omega,by go_num,HS2⟩
       case measure=>have:=HN.out;simp [intOf];omega
     | false =>
       have HA:=Lib.hid (hbad.out hq)
       clear hq
       go_wp2_with fail
       go_ret
       exact ⟨⟨k,rfl,by rw [HA.out];simp⟩,HB1.out⟩
   · have hkk:k=L.length:=by omega
     have HA:Hid (L.all (bidB items)=true):=Lib.hid (List.all_eq_true.2 (fun x hx=>by obtain ⟨i,hi,rfl⟩:=List.getElem_of_mem hx;exact HS.out.2 i hi (by omega)))
     subst hkk
     go_wp2_with fail
     go_ret
     exact ⟨⟨-1,rfl,by rw [HA.out];rfl⟩,HS.out.1⟩
theorem mcontains_any (P:Nat→Prop) (bx:Nat) (items:Int) (a:Option Addr) (n c:Nat) (vs:List Value) (L:List (List Int)) (w:World) (hx:w.cell? ⟨bx,0,none⟩=some (.int .i64 items)) (hi:0≤items∧items≤4611686018427387904) (hbx:bx<w.heap.size) (h:IsIIp w P a n c vs L) :
   Calls Tryz.prog 164 #[.slice a n c,.func (.func 165) #[] #[.pointer (some ⟨bx,0,none⟩)]] w fun e w' => e=.returned (.bool (!L.all (bidB items)))∧Below w.heap.size w w':=by
 go_enter Tryz.func164,Tryz.ntmps164
 go_wp2_with fail
 refine (midx_any P bx items a n c vs L w hx hi hbx h).mono ?_;rintro e w1 ⟨⟨i,rfl,hi⟩,hb1⟩
 have HI:=Lib.hid hi
 clear hi h hx
 go_wp2_with fail
 go_ret
 exact ⟨by rw [← HI.out];rfl,hb1⟩
structure MkC where
 r:List Int
 b:List (List Int)
 o:List Int
structure MkA where
 ra:Option Addr
 rn:Nat
 rc:Nat
 ba:Option Addr
 bn:Nat
 bc:Nat
 bv:List Value
 oa:Option Addr
 on:Nat
 oc:Nat
def MkA.cells (x:MkA):List Value:=[.slice x.ra x.rn x.rc,.slice x.ba x.bn x.bc,.slice x.oa x.on x.oc]
structure IsMk (w:World) (P:Nat→Prop) (x:MkA) (m:MkC):Prop where
 r:IsIp w P x.ra x.rn x.rc m.r
 b:IsIIp w P x.ba x.bn x.bc x.bv m.b
 o:IsIp w P x.oa x.on x.oc m.o
theorem IsMk.touch {S P:Nat→Prop} {w w':World} {x:MkA} {m:MkC} (h:IsMk w P x m) (ht:Touch S w w') (hs:∀ k,P k→¬ S k):IsMk w' P x m:=⟨h.r.touch ht hs,h.b.touch ht hs,h.o.touch ht hs⟩
theorem IsMk.below {P:Nat→Prop} {w w':World} {x:MkA} {m:MkC} (h:IsMk w P x m) (hb:Below w.heap.size w w'):IsMk w' P x m:=⟨h.r.below hb,h.b.below hb,h.o.below hb⟩
theorem IsMk.imp {P Q:Nat→Prop} {w:World} {x:MkA} {m:MkC} (h:IsMk w P x m) (hq:∀ k,P k→Q k):IsMk w Q x m:=⟨h.r.imp hq,h.b.imp hq,h.o.imp hq⟩
def mktB (m:MkC):Bool:=okB m.r m.r.length && (decide (1≤m.b.length) && (decide (m.b.length≤8) && (ordC m.b.length m.o && m.b.all (bidB m.r.length))))
set_option maxRecDepth 100000 in
set_option maxHeartbeats 8000000 in
theorem mcheck_any (P:Nat→Prop) (x:MkA) (m:MkC) (w:World) (h:IsMk w P x m) (hrm:m.r.length≤4611686018427387904) :
   Calls Tryz.prog 90 #[.agg x.cells.toArray] w fun e w' => e=.returned (.bool (mktB m))∧Below w.heap.size w w':=by
 obtain ⟨ra,rn,rc,ba,bn,bc,bv,oa,on,oc⟩:=x
 obtain ⟨hr,hb,ho⟩:=h
 unfold MkA.cells
 dsimp only at hr hb ho ⊢
 obtain rfl:rn=m.r.length:=hr.1.1
 obtain rfl:bn=m.b.length:=hb.1
 obtain rfl:on=m.o.length:=ho.1.1
 have hb0:Below w.heap.size w (w.alloc (.cells #[.slice ra m.r.length rc,.slice ba m.b.length bc,.slice oa m.o.length oc] 84)):=(Below.refl _ _).alloc (Nat.le_refl _) _
 have hv:=heap_new w (.cells #[.slice ra m.r.length rc,.slice ba m.b.length bc,.slice oa m.o.length oc] 84 (0,0))
 have HRI:=Lib.hid (hr.1.below hb0)
 have HBI:=Lib.hid (hb.below hb0)
 have HOI:=Lib.hid (ho.1.below hb0)
 clear hr hb ho
 go_enter Tryz.func90,Tryz.ntmps90
 go_wp2_with fail
 generalize w.alloc (.cells #[.slice ra m.r.length rc,.slice ba m.b.length bc,.slice oa m.o.length oc] 84)=W at hb0 hv HRI HBI HOI ⊢
 have c0:W.cell? ⟨w.heap.size,0,none⟩=some (.slice ra m.r.length rc):=by rw [cell_of_block hv];rfl
 have c1:W.cell? ⟨w.heap.size,1,none⟩=some (.slice ba m.b.length bc):=by rw [cell_of_block hv];rfl
 have c2:W.cell? ⟨w.heap.size,2,none⟩=some (.slice oa m.o.length oc):=by rw [cell_of_block hv];rfl
 have HB0:=Lib.hid hb0
 have HV:=Lib.hid hv
 clear hb0 hv
 have e0:=cell_alloc c0 (.cells #[.int .i64 0] 3 (0,0))
 have e1:=cell_alloc c1 (.cells #[.int .i64 0] 3 (0,0))
 have e0':=cell_alloc c0 (.cells #[.int .i64 (m.r.length:Int)] 3 (0,0))
 have e1':=cell_alloc c1 (.cells #[.int .i64 (m.r.length:Int)] 3 (0,0))
 go_region
 have hbA:Below W.heap.size W (W.alloc (.cells #[.int .i64 (m.r.length:Int)] 3 (0,0))).drew:=((Below.refl _ _).alloc (Nat.le_refl _) _).drew
 have vA:=heap_new W (.cells #[.int .i64 (m.r.length:Int)] 3 (0,0))
 have vA':(W.alloc (.cells #[.int .i64 (m.r.length:Int)] 3 (0,0))).drew.heap[W.heap.size]?=some (.cells #[.int .i64 (m.r.length:Int)] 3 (0,0)):=vA
 generalize (W.alloc (.cells #[.int .i64 (m.r.length:Int)] 3 (0,0))).drew=U at hbA vA' ⊢
 have HB1:=Lib.hid (HB0.out.trans (hbA.mono HB0.out.size))
 have HU:=Lib.hid vA'
 have HR1:=Lib.hid (HRI.out.below hbA)
 have HBI1:=Lib.hid (HBI.out.below hbA)
 have HO1:=Lib.hid (HOI.out.below hbA)
 have u0:U.cell? ⟨w.heap.size,0,none⟩=some (.slice ra m.r.length rc):=cell_later hbA c0
 have u1:U.cell? ⟨W.heap.size,0,none⟩=some (.int .i64 (m.r.length:Int)):=by rw [cell_of_block vA'];rfl
 have HC1:=Lib.hid (cell_later hbA c1)
 have HC2:=Lib.hid (cell_later hbA c2)
 clear e0 e1 e0' e1' c0 c1 c2 hbA vA vA' HRI HBI HOI HB0 HV
 go_wp2_with fail
 refine (vcheck_any ra m.r.length rc m.r (m.r.length:Int) U HR1.out ⟨by omega,by omega⟩).mono ?_;rintro e w1 ⟨rfl,hb1⟩
 have HB2:=Lib.hid (HB1.out.trans (hb1.mono HB1.out.size))
 have HBI2:=Lib.hid (HBI1.out.below hb1)
 have HO2:=Lib.hid (HO1.out.below hb1)
 have HU2:Hid (w1.cell? ⟨W.heap.size,0,none⟩=some (.int .i64 (m.r.length:Int))):=Lib.hid (cell_later hb1 u1)
 have k1:w1.cell? ⟨w.heap.size,1,none⟩=some (.slice ba m.b.length bc):=cell_later hb1 HC1.out
 have k2:w1.cell? ⟨w.heap.size,2,none⟩=some (.slice oa m.o.length oc):=cell_later hb1 HC2.out
 have HLT:Hid (W.heap.size<w1.heap.size):=Lib.hid (Nat.lt_of_lt_of_le (lt_of_heap HU.out) hb1.size)
 clear hb1 u0 u1 HC1 HC2 HB1 HBI1 HO1 HR1 HU
 have HQ:Hid (mktB m=(okB m.r m.r.length && (decide (1≤m.b.length) && (decide (m.b.length≤8) && (ordC m.b.length m.o && m.b.all (bidB m.r.length)))))):=Lib.hid rfl
 cases q1:okB m.r m.r.length with
 | false =>
   have HQ2:Hid (mktB m=false):=Lib.hid (by rw [HQ.out,q1];rfl)
   clear q1
   go_wp2_with fail
   go_ret
   exact ⟨by rw [HQ2.out];rfl,HB2.out⟩
 | true =>
 by_cases q2:1≤m.b.length
 case neg =>
   have HQ2:Hid (mktB m=false):=Lib.hid (by rw [HQ.out,q1,decide_eq_false q2];rfl)
   have d1:decide ((1:Int)≤(m.b.length:Int))=false:=decide_eq_false (by omega)
   have d2:decide (1≤m.b.length)=false:=decide_eq_false q2
   clear q1 q2
   go_wp2_with fail
   go_ret
   exact ⟨by rw [HQ2.out];rfl,HB2.out⟩
 case pos =>
 by_cases q3:m.b.length≤8
 case neg =>
   have HQ2:Hid (mktB m=false):=Lib.hid (by rw [HQ.out,q1,decide_eq_true q2,decide_eq_false q3];rfl)
   have d1:decide ((1:Int)≤(m.b.length:Int))=true:=decide_eq_true (by omega)
   have d2:decide (1≤m.b.length)=true:=decide_eq_true q2
   have d3:decide ((m.b.length:Int)≤8)=false:=decide_eq_false (by omega)
   have d4:decide (m.b.length≤8)=false:=decide_eq_false q3
   clear q1 q2 q3
   go_wp2_with fail
   go_ret
   exact ⟨by rw [HQ2.out];rfl,HB2.out⟩
 case pos =>
   have HQ2:Hid (mktB m=(ordC m.b.length m.o && m.b.all (bidB m.r.length))):=Lib.hid (by rw [HQ.out,q1,decide_eq_true q2,decide_eq_true q3];rfl)
   have d1:decide ((1:Int)≤(m.b.length:Int))=true:=decide_eq_true (by omega)
   have d2:decide (1≤m.b.length)=true:=decide_eq_true q2
   have d3:decide ((m.b.length:Int)≤8)=true:=decide_eq_true (by omega)
   have d4:decide (m.b.length≤8)=true:=decide_eq_true q3
   have H8:=Lib.hid q3
   clear q1 q2 q3 HQ
   go_wp2_with fail
   refine (mord_any oa m.o.length oc m.o m.b.length H8.out w1 HO2.out).mono ?_;rintro e w2 ⟨rfl,hb2⟩
   have HB3:=Lib.hid (HB2.out.trans (hb2.mono HB2.out.size))
   have HBI3:=Lib.hid (HBI2.out.below hb2)
   have HU3:Hid (w2.cell? ⟨W.heap.size,0,none⟩=some (.int .i64 (m.r.length:Int))):=Lib.hid (cell_later hb2 HU2.out)
   have HLT3:Hid (W.heap.size<w2.heap.size):=Lib.hid (Nat.lt_of_lt_of_le HLT.out hb2.size)
   have j1:w2.cell? ⟨w.heap.size,1,none⟩=some (.slice ba m.b.length bc):=cell_later hb2 k1
   clear hb2 k1 k2 HB2 HBI2 HO2 HU2 HLT
   cases q4:ordC m.b.length m.o with
   | false =>
     have HQ3:Hid (mktB m=false):=Lib.hid (by rw [HQ2.out,q4];rfl)
     clear q4
     go_wp2_with fail
     go_ret
     exact ⟨by rw [HQ3.out];rfl,HB3.out⟩
   | true =>
     have HQ3:Hid (mktB m=m.b.all (bidB m.r.length)):=Lib.hid (by rw [HQ2.out,q4];rfl)
     clear q4
     go_wp2_with fail
     refine (mcontains_any P W.heap.size (m.r.length:Int) ba m.b.length bc bv m.b w2 HU3.out ⟨by omega,by omega⟩ HLT3.out HBI3.out).mono ?_;rintro e w3 ⟨rfl,hb3⟩
     have HB4:=Lib.hid (HB3.out.trans (hb3.mono HB3.out.size))
     clear hb3 j1
     generalize hq:m.b.all (bidB m.r.length)=q at HQ3 ⊢
     clear hq
     go_wp2_with fail
     go_ret
     exact ⟨by rw [HQ3.out];simp,HB4.out⟩
instance : DecidableEq StR := fun a b => decidable_of_iff (a.seq = b.seq ∧ a.stands = b.stands ∧ a.bid = b.bid) ⟨fun ⟨h1, h2, h3⟩ => by cases a; cases b; simp_all, fun h => by subst h; exact ⟨rfl, rfl, rfl⟩⟩
instance : DecidableEq MkC := fun a b => decidable_of_iff (a.r = b.r ∧ a.b = b.b ∧ a.o = b.o) ⟨fun ⟨h1, h2, h3⟩ => by cases a; cases b; simp_all, fun h => by subst h; exact ⟨rfl, rfl, rfl⟩⟩
theorem below_drewN' (w:World) (j:Nat):Below w.heap.size w (w.drewN j):=below_drewN (Below.refl _ _) j
theorem sameI_any (a b:Option Addr) (n m c d:Nat) (l k:List Int) (w:World) (hl:IsI w a n c l) (hk:IsI w b m d k) :
   Calls Tryz.prog 41 #[.slice a n c,.slice b m d] w fun e w' => e=.returned (.bool (decide (l=k)))∧Below w.heap.size w w' :=
 (same_any a b n m c d l k w hl hk).mono fun e w' ⟨h1,j,h2⟩ => ⟨h1,by rw [h2];exact below_drewN' w j⟩
set_option maxRecDepth 100000 in
set_option maxHeartbeats 4000000 in
theorem sameR_core (s1 s2:Int) (st1 st2:Bool) (b1 b2:Bool) (q1:(s1 == s2)=b1) (q2:(st1 == st2)=b2) (a1 a2:Option Addr) (n1 n2 c1 c2:Nat) (l1 l2:List Int) (w:World) (h1:IsI w a1 n1 c1 l1) (h2:IsI w a2 n2 c2 l2) :
   Calls Tryz.prog 40 #[.agg #[.int .u32 s1,.bool st1,.slice a1 n1 c1],.agg #[.int .u32 s2,.bool st2,.slice a2 n2 c2]] w fun e w' => e=.returned (.bool (b1 && (b2 && decide (l1=l2))))∧Below w.heap.size w w':=by
 obtain ⟨hb0,_,_⟩:=alloc2_facts w (.cells #[.int .u32 s1,.bool st1,.slice a1 n1 c1] 60 (0,0)) (.cells #[.int .u32 s2,.bool st2,.slice a2 n2 c2] 60 (0,0))
 have H1:=Lib.hid (h1.below hb0)
 have H2:=Lib.hid (h2.below hb0)
 have HB:=Lib.hid hb0
 clear h1 h2 hb0
 go_enter Tryz.func40,Tryz.ntmps40
 cases b1 with
 | false =>
   go_wp2_with fail
   go_ret
   exact ⟨rfl,HB.out⟩
 | true =>
   cases b2 with
   | false =>
     go_wp2_with fail
     go_ret
     exact ⟨rfl,HB.out⟩
   | true =>
     obtain rfl:s1=s2:=eq_of_beq q1
     obtain rfl:st1=st2:=eq_of_beq q2
     go_wp2_with fail
     refine (sameI_any a1 a2 n1 n2 c1 c2 l1 l2 _ H1.out H2.out).mono ?_;rintro e w1 ⟨rfl,hb1⟩
     have HB1:=Lib.hid (HB.out.trans (hb1.mono HB.out.size))
     clear hb1
     generalize hq:decide (l1=l2)=q
     have HQ:=Lib.hid hq
     clear hq
     go_wp2_with fail
     go_ret
     exact ⟨by rw [HQ.out];simp,HB1.out⟩
theorem sameR_any (sq1 sq2:Nat) (st1 st2:Bool) (a1 a2:Option Addr) (n1 n2 c1 c2:Nat) (l1 l2:List Int) (w:World) (h1:IsI w a1 n1 c1 l1) (h2:IsI w a2 n2 c2 l2) :
   Calls Tryz.prog 40 #[.agg #[.int .u32 sq1,.bool st1,.slice a1 n1 c1],.agg #[.int .u32 sq2,.bool st2,.slice a2 n2 c2]] w fun e w' => e=.returned (.bool (decide ((⟨sq1,st1,l1⟩:StR)=⟨sq2,st2,l2⟩)))∧Below w.heap.size w w':=by
 have hd:decide ((⟨sq1,st1,l1⟩:StR)=⟨sq2,st2,l2⟩)=(((sq1:Int) == (sq2:Int)) && ((st1 == st2) && decide (l1=l2))):=by
   rw [Bool.eq_iff_iff]
   simp only [decide_eq_true_eq,StR.mk.injEq,Bool.and_eq_true,beq_iff_eq,Int.natCast_inj]
 rw [hd]
 exact sameR_core (sq1:Int) (sq2:Int) st1 st2 _ _ rfl rfl a1 a2 n1 n2 c1 c2 l1 l2 w h1 h2
theorem isII_cells {w:World} {P:Nat→Prop} {a:Option Addr} {n c:Nat} {vs:List Value} {L:List (List Int)} (h:IsIIp w P a n c vs L) (k:Nat) (hk:k<L.length):∃ b off x y z,a=some ⟨b,off,none⟩∧b<w.heap.size∧w.cell? ⟨b,off+k,none⟩=some (.slice x y z)∧IsI w x y z L[k]:=by
 obtain ⟨h0,h1,h2,hv,hc⟩:=h
 rcases hc with h0 | ⟨b,off,rfl,_,hlt,hc⟩
 · rw [h0] at hk;simp at hk
 · obtain ⟨x,y,z,h3,h4⟩:=hv.2 k hk
   have hkv:k<vs.length:=by rw [hv.1];exact hk
   rw [List.getElem?_eq_getElem hkv] at h3
   have:=hc k hkv
   rw [Option.some.inj h3] at this
   exact ⟨b,off,x,y,z,rfl,hlt,this,h4.1⟩
set_option maxRecDepth 100000 in
set_option maxHeartbeats 4000000 in
theorem sameII_any (P Q:Nat→Prop) (a b:Option Addr) (n m c d:Nat) (vs us:List Value) (L K:List (List Int)) (w:World) (hL:IsIIp w P a n c vs L) (hK:IsIIp w Q b m d us K) :
   Calls Tryz.prog 93 #[.slice a n c,.slice b m d] w fun e w' => e=.returned (.bool (decide (L=K)))∧Below w.heap.size w w':=by
 have HL:=Lib.hid (isII_cells hL)
 have HK:=Lib.hid (isII_cells hK)
 have hm:L.length≤9223372036854775807:=by have:=hL.2.1;have:=hL.2.2.1;unfold maxLen at this;omega
 obtain rfl:=hL.1
 obtain rfl:=hK.1
 clear hL hK
 go_enter Tryz.func93,Tryz.ntmps93
 by_cases hlk:L.length=K.length
 case neg =>
   have d1:((L.length:Int) != (K.length:Int))=true:=by rw [bne_iff_ne];omega
   have HQ:Hid (decide (L=K)=false):=Lib.hid (decide_eq_false (fun e=>hlk (by rw [e])))
   clear hlk
   go_wp2_with fail
   go_ret
   exact ⟨by rw [HQ.out];rfl,Below.refl _ _⟩
 case pos =>
   have HLK:=Lib.hid hlk
   have d1:((L.length:Int) != (K.length:Int))=false:=by rw [bne_eq_false_iff_eq];omega
   clear hlk
   go_wp2_with fail
   obtain ⟨N,hN⟩:∃ N,N=L.length:=⟨_,rfl⟩
   have HN:=Lib.hid hN
   clear hN d1
   go_loopw [5] (fun i wr => ∃ k:Nat,k≤L.length∧i=.int .i64 k∧Hid (Below w.heap.size w wr∧L.take k=K.take k)) (fun i _=>N - (intOf i).toNat)
   case atStart=>exact ⟨0,Nat.zero_le _,rfl,Lib.hid ⟨Below.refl _ _,by simp⟩⟩
   case round =>
     obtain ⟨k,hk,rfl,HS⟩:=hrel
     by_cases hlt:k<L.length
     · have hkk:k<K.length:=by rw [← HLK.out];exact hlt
       obtain ⟨b1,o1,x1,y1,z1,rfl,hb1,hc1,hi1⟩:=HL.out k hlt
       obtain ⟨b2,o2,x2,y2,z2,rfl,hb2,hc2,hi2⟩:=HK.out k hkk
       have e1:wr.cell? ⟨b1,o1+k,none⟩=some (.slice x1 y1 z1):=(HS.out.1.cell (p:=⟨b1,o1+k,none⟩) hb1).trans hc1
       have e2:wr.cell? ⟨b2,o2+k,none⟩=some (.slice x2 y2 z2):=(HS.out.1.cell (p:=⟨b2,o2+k,none⟩) hb2).trans hc2
       have g1:wr.drew.cell? ⟨b1,o1+k,none⟩=some (.slice x1 y1 z1):=e1
       have g2:wr.drew.cell? ⟨b2,o2+k,none⟩=some (.slice x2 y2 z2):=e2
       have hdw:Below w.heap.size w wr.drew:=HS.out.1.drew
       have HCALL:=Lib.hid (sameI_any x1 x2 y1 y2 z1 z2 L[k] K[k] wr.drew (hi1.below hdw) (hi2.below hdw))
       have HSUC:Hid (L[k]=K[k]→L.take (k+1)=K.take (k+1)):=Lib.hid (fun e=>by rw [List.take_succ_eq_append_getElem hlt,List.take_succ_eq_append_getElem hkk,HS.out.2,e])
       have HNE:Hid (L[k]≠K[k]→decide (L=K)=false):=Lib.hid (fun h=>decide_eq_false (fun e=>h (by subst e;rfl)))
       have HDW:=Lib.hid hdw
       clear hc1 hi1 hc2 hi2 hdw
       generalize L[k]=p at HCALL HSUC HNE
       generalize K[k]=q at HCALL HSUC HNE
       go_wp2_with fail
       go_region_law (first
         | (go_simp;go_at_call 41;refine HCALL.out.mono ?_;rintro e w1 ⟨rfl,hbb⟩)
         | fail)
       all_goals
         have HB1:=Lib.hid (HDW.out.trans (hbb.mono HDW.out.size))
         clear hbb HCALL e1 e2 g1 g2
         by_cases hpq:p=q
         · have hd:decide (p=q)=true:=decide_eq_true hpq
           have HS2:Hid (Below w.heap.size w w1∧L.take (k+1)=K.take (k+1)):=Lib.hid ⟨HB1.out,HSUC.out hpq⟩
           rw [hd]
           clear hd hpq
           go_wp2_with fail
           go_roundw
           case rel=>exact ⟨k+1,by omega,by go_num,HS2⟩
           case measure=>have:=HN.out;simp [intOf];omega
         · have hd:decide (p=q)=false:=decide_eq_false hpq
           have HQ:=Lib.hid (HNE.out hpq)
           rw [hd]
           clear hd hpq
           go_wp2_with fail
           go_ret
           exact ⟨by rw [HQ.out];rfl,HB1.out⟩
     · have hkk:k=L.length:=by omega
       subst hkk
       have HQ:Hid (decide (L=K)=true):=Lib.hid (decide_eq_true (by
         have h:=HS.out.2
         rw [List.take_length,HLK.out,List.take_length] at h
         exact h))
       go_wp2_with fail
       go_ret
       exact ⟨by rw [HQ.out];rfl,HS.out.1⟩
set_option maxRecDepth 100000 in
set_option maxHeartbeats 4000000 in
theorem sameM_any (P Q:Nat→Prop) (x y:MkA) (m k:MkC) (w:World) (hx:IsMk w P x m) (hy:IsMk w Q y k) :
   Calls Tryz.prog 42 #[.agg x.cells.toArray,.agg y.cells.toArray] w fun e w' => e=.returned (.bool (decide (m=k)))∧Below w.heap.size w w':=by
 obtain ⟨ra,rn,rc,ba,bn,bc,bv,oa,on,oc⟩:=x
 obtain ⟨ra',rn',rc',ba',bn',bc',bv',oa',on',oc'⟩:=y
 obtain ⟨r,b,o⟩:=m
 obtain ⟨r',b',o'⟩:=k
 have hd:decide ((⟨r,b,o⟩:MkC)=⟨r',b',o'⟩)=(decide (r=r') && (decide (b=b') && decide (o=o'))):=by
   rw [Bool.eq_iff_iff]
   simp only [decide_eq_true_eq,MkC.mk.injEq,Bool.and_eq_true]
 unfold MkA.cells
 dsimp only at *
 obtain ⟨hb0,m0,m1⟩:=alloc2_facts w (.cells #[.slice ra rn rc,.slice ba bn bc,.slice oa on oc] 84 (0,0)) (.cells #[.slice ra' rn' rc',.slice ba' bn' bc',.slice oa' on' oc'] 84 (0,0))
 have HX:=Lib.hid (hx.below hb0)
 have HY:=Lib.hid (hy.below hb0)
 have HD:=Lib.hid hd
 clear hx hy hd
 go_enter Tryz.func42,Tryz.ntmps42
 go_wp2_with fail
 generalize ((w.alloc (.cells #[.slice ra rn rc,.slice ba bn bc,.slice oa on oc] 84)).alloc (.cells #[.slice ra' rn' rc',.slice ba' bn' bc',.slice oa' on' oc'] 84))=W at hb0 m0 m1 HX HY ⊢
 have x0:W.cell? ⟨w.heap.size,0,none⟩=some (.slice ra rn rc):=by rw [cell_of_block m0];rfl
 have y0:W.cell? ⟨w.heap.size+1,0,none⟩=some (.slice ra' rn' rc'):=by rw [cell_of_block m1];rfl
 have HM0:=Lib.hid m0
 have HM1:=Lib.hid m1
 have HB:=Lib.hid hb0
 clear hb0 m0 m1
 go_wp2_with fail
 refine (sameI_any ra ra' rn rn' rc rc' r r' W HX.out.r.1 HY.out.r.1).mono ?_;rintro e w1 ⟨rfl,hb1⟩
 have HB1:=Lib.hid (HB.out.trans (hb1.mono HB.out.size))
 have HX1:=Lib.hid (HX.out.below hb1)
 have HY1:=Lib.hid (HY.out.below hb1)
 have n0:=below_heap hb1 HM0.out (lt_of_heap HM0.out)
 have n1:=below_heap hb1 HM1.out (lt_of_heap HM1.out)
 have x1:w1.cell? ⟨w.heap.size,1,none⟩=some (.slice ba bn bc):=by rw [cell_of_block n0];rfl
 have y1:w1.cell? ⟨w.heap.size+1,1,none⟩=some (.slice ba' bn' bc'):=by rw [cell_of_block n1];rfl
 have HN0:=Lib.hid n0
 have HN1:=Lib.hid n1
 clear hb1 HB HX HY HM0 HM1 n0 n1 x0 y0
 by_cases q1:r=r'
 case neg =>
   have HQ:Hid (decide ((⟨r,b,o⟩:MkC)=⟨r',b',o'⟩)=false):=Lib.hid (by rw [HD.out,decide_eq_false q1];rfl)
   have d1:decide (r=r')=false:=decide_eq_false q1
   rw [d1]
   clear d1 q1
   go_wp2_with fail
   go_ret
   exact ⟨by rw [HQ.out];rfl,HB1.out⟩
 case pos =>
   have HQ1:Hid (decide ((⟨r,b,o⟩:MkC)=⟨r',b',o'⟩)=(decide (b=b') && decide (o=o'))):=Lib.hid (by rw [HD.out,decide_eq_true q1];rfl)
   have d1:decide (r=r')=true:=decide_eq_true q1
   rw [d1]
   clear d1 q1
   go_wp2_with fail
   refine (sameII_any P Q ba ba' bn bn' bc bc' bv bv' b b' w1 HX1.out.b HY1.out.b).mono ?_;rintro e w2 ⟨rfl,hb2⟩
   have HB2:=Lib.hid (HB1.out.trans (hb2.mono HB1.out.size))
   have HX2:=Lib.hid (HX1.out.below hb2)
   have HY2:=Lib.hid (HY1.out.below hb2)
   have n0:=below_heap hb2 HN0.out (lt_of_heap HN0.out)
   have n1:=below_heap hb2 HN1.out (lt_of_heap HN1.out)
   have x2:w2.cell? ⟨w.heap.size,2,none⟩=some (.slice oa on oc):=by rw [cell_of_block n0];rfl
   have y2:w2.cell? ⟨w.heap.size+1,2,none⟩=some (.slice oa' on' oc'):=by rw [cell_of_block n1];rfl
   clear hb2 HB1 HX1 HY1 HN0 HN1 n0 n1 x1 y1
   by_cases q2:b=b'
   case neg =>
     have HQ:Hid (decide ((⟨r,b,o⟩:MkC)=⟨r',b',o'⟩)=false):=Lib.hid (by rw [HQ1.out,decide_eq_false q2];rfl)
     have d1:decide (b=b')=false:=decide_eq_false q2
     rw [d1]
     clear d1 q2
     go_wp2_with fail
     go_ret
     exact ⟨by rw [HQ.out];rfl,HB2.out⟩
   case pos =>
     have HQ2:Hid (decide ((⟨r,b,o⟩:MkC)=⟨r',b',o'⟩)=decide (o=o')):=Lib.hid (by rw [HQ1.out,decide_eq_true q2];rfl)
     have d1:decide (b=b')=true:=decide_eq_true q2
     rw [d1]
     clear d1 q2
     go_wp2_with fail
     refine (sameI_any oa oa' on on' oc oc' o o' w2 HX2.out.o.1 HY2.out.o.1).mono ?_;rintro e w3 ⟨rfl,hb3⟩
     have HB3:=Lib.hid (HB2.out.trans (hb3.mono HB2.out.size))
     clear hb3
     generalize hq:decide (o=o')=q at HQ2 ⊢
     clear hq
     go_wp2_with fail
     go_ret
     exact ⟨by rw [HQ2.out];rfl,HB3.out⟩
theorem IsBBp.isBB {w:World} {P:Nat→Prop} {a:Option Addr} {n c:Nat} {vs:List Value} {L:List (List UInt8)} (h:IsBBp w P a n c vs L):IsBB w 0 a n c L:=by
 obtain ⟨h0,h1,h2,hv,hc⟩:=h
 refine ⟨h0,h1,h2,?_⟩
 rcases hc with h0 | ⟨b,off,rfl,_,hlt,hc⟩
 · exact .inl h0
 · refine .inr ⟨b,off,rfl,Nat.zero_le _,hlt,fun k hk => ?_⟩
   obtain ⟨x,y,z,h3,h4⟩:=hv.2 k hk
   have hkv:k<vs.length:=by rw [hv.1];exact hk
   rw [List.getElem?_eq_getElem hkv] at h3
   have:=hc k hkv
   exact ⟨vs[k],this,x,y,z,Option.some.inj h3,h4.1,fun _ _ _ _=>Nat.zero_le _⟩
def StC.d (c:StC):CfgD:=⟨c.r,c.s,c.a,c.u,UInt64.ofNat c.t⟩
def StA.g (x:StA):CfgA:=⟨x.ra,x.rn,x.rc,x.sa,x.sn,x.sc,x.aa,x.an,x.ac,x.ua,x.un,x.uc⟩
theorem StC.d_t {c:StC} (h:c.t<18446744073709551616):(c.d).t.toNat=c.t:=by
 show (UInt64.ofNat c.t).toNat=c.t
 rw [UInt64.toNat_ofNat'];omega
theorem IsCf.isCfg {w:World} {P:Nat→Prop} {x:StA} {c:StC} (h:IsCf w P x c):IsCfg w 0 x.g c.d:=⟨h.r.1,h.s.isBB,h.a.1,h.u.1⟩
theorem StA.g_cells {x:StA} {c:StC} (h:c.t<18446744073709551616):x.g.cells c.d.t=x.cells c.t:=by
 unfold CfgA.cells StA.cells StA.g
 rw [StC.d_t h]
set_option maxRecDepth 100000 in
set_option maxHeartbeats 4000000 in
theorem sameC_any (P Q:Nat→Prop) (x y:StA) (c:StC) (w:World) (hx:IsCf w P x c) (hy:IsCf w Q y c) :
   Calls Tryz.prog 36 #[.agg (x.cells c.t).toArray,.agg (y.cells c.t).toArray] w fun e w' => e=.returned (.bool true)∧Below w.heap.size w w':=by
 obtain ⟨ra,rn,rc,sa,sn,sc,sv,aa,an,ac,ua,un,uc⟩:=x
 obtain ⟨ra',rn',rc',sa',sn',sc',sv',aa',an',ac',ua',un',uc'⟩:=y
 unfold StA.cells
 dsimp only at *
 obtain ⟨hb0,m0,m1⟩:=alloc2_facts w (.cells #[.slice ra rn rc,.slice sa sn sc,.slice aa an ac,.slice ua un uc,.int .u64 (c.t:Int)] 27 (0,0)) (.cells #[.slice ra' rn' rc',.slice sa' sn' sc',.slice aa' an' ac',.slice ua' un' uc',.int .u64 (c.t:Int)] 27 (0,0))
 have HX:=Lib.hid (hx.below hb0)
 have HY:=Lib.hid (hy.below hb0)
 clear hx hy
 go_enter Tryz.func36,Tryz.ntmps36
 go_wp2_with fail
 generalize ((w.alloc (.cells #[.slice ra rn rc,.slice sa sn sc,.slice aa an ac,.slice ua un uc,.int .u64 (c.t:Int)] 27)).alloc (.cells #[.slice ra' rn' rc',.slice sa' sn' sc',.slice aa' an' ac',.slice ua' un' uc',.int .u64 (c.t:Int)] 27))=W at hb0 m0 m1 HX HY ⊢
 have x0:W.cell? ⟨w.heap.size,0,none⟩=some (.slice ra rn rc):=by rw [cell_of_block m0];rfl
 have y0:W.cell? ⟨w.heap.size+1,0,none⟩=some (.slice ra' rn' rc'):=by rw [cell_of_block m1];rfl
 have HM0:=Lib.hid m0
 have HM1:=Lib.hid m1
 have HB:=Lib.hid hb0
 clear hb0 m0 m1
 go_wp2_with fail
 refine (sameI_any ra ra' rn rn' rc rc' c.r c.r W HX.out.r.1 HY.out.r.1).mono ?_;rintro e w1 ⟨rfl,hb1⟩
 have HB1:=Lib.hid (HB.out.trans (hb1.mono HB.out.size))
 have HX1:=Lib.hid (HX.out.below hb1)
 have HY1:=Lib.hid (HY.out.below hb1)
 have n0:=below_heap hb1 HM0.out (lt_of_heap HM0.out)
 have n1:=below_heap hb1 HM1.out (lt_of_heap HM1.out)
 have x1:w1.cell? ⟨w.heap.size,1,none⟩=some (.slice sa sn sc):=by rw [cell_of_block n0];rfl
 have y1:w1.cell? ⟨w.heap.size+1,1,none⟩=some (.slice sa' sn' sc'):=by rw [cell_of_block n1];rfl
 have HN0:=Lib.hid n0
 have HN1:=Lib.hid n1
 clear hb1 HB HX HY HM0 HM1 n0 n1 x0 y0
 rw [decide_eq_true (Eq.refl c.r)]
 go_wp2_with fail
 refine (sameBs_any sa sa' 0 0 sn sn' sc sc' c.s c.s w1 HX1.out.s.isBB HY1.out.s.isBB).mono ?_;rintro e w2 ⟨rfl,j2,hw2⟩
 have hb2:Below w1.heap.size w1 w2:=by rw [hw2];exact below_drewN' w1 j2
 have HB2:=Lib.hid (HB1.out.trans (hb2.mono HB1.out.size))
 have HX2:=Lib.hid (HX1.out.below hb2)
 have HY2:=Lib.hid (HY1.out.below hb2)
 have n0:=below_heap hb2 HN0.out (lt_of_heap HN0.out)
 have n1:=below_heap hb2 HN1.out (lt_of_heap HN1.out)
 have x2:w2.cell? ⟨w.heap.size,2,none⟩=some (.slice aa an ac):=by rw [cell_of_block n0];rfl
 have y2:w2.cell? ⟨w.heap.size+1,2,none⟩=some (.slice aa' an' ac'):=by rw [cell_of_block n1];rfl
 have HO0:=Lib.hid n0
 have HO1:=Lib.hid n1
 clear hb2 HB1 HX1 HY1 HN0 HN1 n0 n1 x1 y1 hw2
 rw [decide_eq_true (Eq.refl c.s)]
 go_wp2_with fail
 refine (sameB_any aa aa' an an' ac ac' c.a c.a w2 HX2.out.a.1 HY2.out.a.1).mono ?_;rintro e w3 ⟨rfl,j3,hw3⟩
 have hb3:Below w2.heap.size w2 w3:=by rw [hw3];exact below_drewN' w2 j3
 have HB3:=Lib.hid (HB2.out.trans (hb3.mono HB2.out.size))
 have HX3:=Lib.hid (HX2.out.below hb3)
 have HY3:=Lib.hid (HY2.out.below hb3)
 have n0:=below_heap hb3 HO0.out (lt_of_heap HO0.out)
 have n1:=below_heap hb3 HO1.out (lt_of_heap HO1.out)
 have x3:w3.cell? ⟨w.heap.size,3,none⟩=some (.slice ua un uc):=by rw [cell_of_block n0];rfl
 have y3:w3.cell? ⟨w.heap.size+1,3,none⟩=some (.slice ua' un' uc'):=by rw [cell_of_block n1];rfl
 have HP0:=Lib.hid n0
 have HP1:=Lib.hid n1
 clear hb3 HB2 HX2 HY2 HO0 HO1 n0 n1 x2 y2 hw3
 rw [decide_eq_true (Eq.refl c.a)]
 go_wp2_with fail
 refine (sameB_any ua ua' un un' uc uc' c.u c.u w3 HX3.out.u.1 HY3.out.u.1).mono ?_;rintro e w4 ⟨rfl,j4,hw4⟩
 have hb4:Below w3.heap.size w3 w4:=by rw [hw4];exact below_drewN' w3 j4
 have HB4:=Lib.hid (HB3.out.trans (hb4.mono HB3.out.size))
 have n0:=below_heap hb4 HP0.out (lt_of_heap HP0.out)
 have n1:=below_heap hb4 HP1.out (lt_of_heap HP1.out)
 have x4:w4.cell? ⟨w.heap.size,4,none⟩=some (.int .u64 (c.t:Int)):=by rw [cell_of_block n0];rfl
 have y4:w4.cell? ⟨w.heap.size+1,4,none⟩=some (.int .u64 (c.t:Int)):=by rw [cell_of_block n1];rfl
 have e4:((c.t:Int) == (c.t:Int))=true:=by simp
 clear hb4 HB3 HX3 HY3 HP0 HP1 n0 n1 x3 y3 hw4
 rw [decide_eq_true (Eq.refl c.u)]
 go_wp2_with fail
 go_ret
 exact ⟨by simp,HB4.out⟩
end Go.Proofs.YtgbikngicidbkaaGreatDoor
