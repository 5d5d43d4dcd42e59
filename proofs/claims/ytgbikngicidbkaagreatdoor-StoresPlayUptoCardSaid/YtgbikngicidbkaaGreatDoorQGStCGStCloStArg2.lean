/- A config,lists of bytes,ints in memory,by a property of their blocks;conditions: those typed. -/
import Derived.Test.YtgbikngicidbkaaGreatDoorQGStNGStN2R1ListR1GetL
import Derived.Test.YtgbikngicidbkaaGreatDoorQStV
import Derived.Test.YtgbikngicidbkaaGreatDoorQGSlotsGetGSlotsLaw2StOldP
import Derived.Test.YtgbikngicidbkaaGreatDoorQGOpened
import Derived.Test.YtgbikngicidbkaaGreatDoorQGSlotsR
import Derived.Deep.RegionHeld3
namespace Go.Proofs.YtgbikngicidbkaaGreatDoor
section
open Go.RowKit
set_option linter.unusedVariables false
set_option linter.unusedSimpArgs false
def IsBp (w:World) (P:Nat→Prop) (a:Option Addr) (n c:Nat) (l:List UInt8):Prop:=IsB w a n c l∧∀ b off,a=some ⟨b,off,none⟩→l≠[]→P b
def IsIp (w:World) (P:Nat→Prop) (a:Option Addr) (n c:Nat) (l:List Int):Prop:=IsI w a n c l∧∀ b off,a=some ⟨b,off,none⟩→l≠[]→P b
theorem IsBp.touch {S P:Nat→Prop} {w w':World} {a:Option Addr} {n c:Nat} {l:List UInt8} (h:IsBp w P a n c l) (ht:Touch S w w') (hs:∀ k,P k→¬ S k):IsBp w' P a n c l :=
 ⟨h.1.touch ht (fun b off ha hl=>hs b (h.2 b off ha hl)),h.2⟩
theorem IsIp.touch {S P:Nat→Prop} {w w':World} {a:Option Addr} {n c:Nat} {l:List Int} (h:IsIp w P a n c l) (ht:Touch S w w') (hs:∀ k,P k→¬ S k):IsIp w' P a n c l :=
 ⟨h.1.touch ht (fun b off ha hl=>hs b (h.2 b off ha hl)),h.2⟩
theorem IsBp.below {P:Nat→Prop} {w w':World} {a:Option Addr} {n c:Nat} {l:List UInt8} (h:IsBp w P a n c l) (hb:Below w.heap.size w w'):IsBp w' P a n c l:=⟨h.1.below hb,h.2⟩
theorem IsIp.below {P:Nat→Prop} {w w':World} {a:Option Addr} {n c:Nat} {l:List Int} (h:IsIp w P a n c l) (hb:Below w.heap.size w w'):IsIp w' P a n c l:=⟨h.1.below hb,h.2⟩
theorem IsBp.imp {P Q:Nat→Prop} {w:World} {a:Option Addr} {n c:Nat} {l:List UInt8} (h:IsBp w P a n c l) (hq:∀ k,P k→Q k):IsBp w Q a n c l:=⟨h.1,fun b off ha hl=>hq b (h.2 b off ha hl)⟩
theorem IsIp.imp {P Q:Nat→Prop} {w:World} {a:Option Addr} {n c:Nat} {l:List Int} (h:IsIp w P a n c l) (hq:∀ k,P k→Q k):IsIp w Q a n c l:=⟨h.1,fun b off ha hl=>hq b (h.2 b off ha hl)⟩
theorem IsB.ltSize {w:World} {a:Option Addr} {n c:Nat} {l:List UInt8} (h:IsB w a n c l):∀ b off,a=some ⟨b,off,none⟩→l≠[]→b<w.heap.size:=by
 intro b off ha hl
 rcases h.2.2.2 with ⟨h0,_⟩ | ⟨b',off',h0,hlt,_⟩
 · exact absurd h0 hl
 · rw [ha] at h0;cases h0;exact hlt
theorem IsI.ltSize {w:World} {a:Option Addr} {n c:Nat} {l:List Int} (h:IsI w a n c l):∀ b off,a=some ⟨b,off,none⟩→l≠[]→b<w.heap.size:=by
 intro b off ha hl
 rcases h.2.2.2 with ⟨h0,_⟩ | ⟨b',off',h0,hlt,_⟩
 · exact absurd h0 hl
 · rw [ha] at h0;cases h0;exact hlt
theorem NwB.isBp {B:Nat} {w:World} {a:Option Addr} {l:List UInt8} (h:NwB B w a l):IsBp w (fun k=>B≤k) a l.length l.length l:=⟨h.isB,fun b off ha _=>h.base b off ha⟩
theorem NwI.isIp {B:Nat} {w:World} {a:Option Addr} {l:List Int} (h:NwI B w a l):IsIp w (fun k=>B≤k) a l.length l.length l:=⟨h.isI,fun b off ha _=>h.base b off ha⟩
def BBv (w:World) (P:Nat→Prop) (vs:List Value) (L:List (List UInt8)):Prop:=vs.length=L.length∧∀ i (h:i<L.length),∃ a n c,vs[i]?=some (.slice a n c)∧IsBp w P a n c L[i]
theorem BBv.touch {S P:Nat→Prop} {w w':World} {vs:List Value} {L:List (List UInt8)} (h:BBv w P vs L) (ht:Touch S w w') (hs:∀ k,P k→¬ S k):BBv w' P vs L :=
 ⟨h.1,fun i hi=>by obtain ⟨a,n,c,h1,h2⟩:=h.2 i hi;exact ⟨a,n,c,h1,h2.touch ht hs⟩⟩
theorem BBv.below {P:Nat→Prop} {w w':World} {vs:List Value} {L:List (List UInt8)} (h:BBv w P vs L) (hb:Below w.heap.size w w'):BBv w' P vs L :=
 ⟨h.1,fun i hi=>by obtain ⟨a,n,c,h1,h2⟩:=h.2 i hi;exact ⟨a,n,c,h1,h2.below hb⟩⟩
theorem BBv.imp {P Q:Nat→Prop} {w:World} {vs:List Value} {L:List (List UInt8)} (h:BBv w P vs L) (hq:∀ k,P k→Q k):BBv w Q vs L :=
 ⟨h.1,fun i hi=>by obtain ⟨a,n,c,h1,h2⟩:=h.2 i hi;exact ⟨a,n,c,h1,h2.imp hq⟩⟩
theorem BBv.nil (w:World) (P:Nat→Prop):BBv w P [] []:=⟨rfl,fun i h=>by simp at h⟩
theorem BBv.one {w:World} {P:Nat→Prop} {vs:List Value} {L:List (List UInt8)} (h:BBv w P vs L):∀ v ∈ vs,v.oneCell'=true:=by
 intro v hv
 obtain ⟨i,hi,rfl⟩:=List.getElem_of_mem hv
 obtain ⟨a,n,c,h1,_⟩:=h.2 i (by rw [← h.1];exact hi)
 rw [List.getElem?_eq_getElem hi] at h1
 rw [Option.some.inj h1];rfl
def IsBBp (w:World) (P:Nat→Prop) (a:Option Addr) (n c:Nat) (vs:List Value) (L:List (List UInt8)):Prop :=
 n=L.length∧L.length≤c∧c≤maxLen∧BBv w P vs L∧(L=[]∨∃ b off,a=some ⟨b,off,none⟩∧P b∧b<w.heap.size∧∀ i (h:i<vs.length),w.cell? ⟨b,off+i,none⟩=some vs[i])
theorem IsBBp.touch {S P:Nat→Prop} {w w':World} {a:Option Addr} {n c:Nat} {vs:List Value} {L:List (List UInt8)} (h:IsBBp w P a n c vs L) (ht:Touch S w w') (hs:∀ k,P k→¬ S k):IsBBp w' P a n c vs L:=by
 obtain ⟨h1,h2,h3,h4,h5 | ⟨b,off,rfl,hP,hlt,hc⟩⟩:=h
 · exact ⟨h1,h2,h3,h4.touch ht hs,.inl h5⟩
 · exact ⟨h1,h2,h3,h4.touch ht hs,.inr ⟨b,off,rfl,hP,Nat.lt_of_lt_of_le hlt ht.size,fun i hi=>ht.cell (hc i hi) (hs b hP)⟩⟩
theorem IsBBp.below {P:Nat→Prop} {w w':World} {a:Option Addr} {n c:Nat} {vs:List Value} {L:List (List UInt8)} (h:IsBBp w P a n c vs L) (hb:Below w.heap.size w w'):IsBBp w' P a n c vs L:=h.touch (Touch.of_below (S:=fun _=>False) hb) (fun _ _=>id)
theorem IsBBp.imp {P Q:Nat→Prop} {w:World} {a:Option Addr} {n c:Nat} {vs:List Value} {L:List (List UInt8)} (h:IsBBp w P a n c vs L) (hq:∀ k,P k→Q k):IsBBp w Q a n c vs L:=by
 obtain ⟨h1,h2,h3,h4,h5 | ⟨b,off,rfl,hP,hlt,hc⟩⟩:=h
 · exact ⟨h1,h2,h3,h4.imp hq,.inl h5⟩
 · exact ⟨h1,h2,h3,h4.imp hq,.inr ⟨b,off,rfl,hq b hP,hlt,hc⟩⟩
theorem IsBBp.at {w:World} {P:Nat→Prop} {a:Option Addr} {n c:Nat} {vs:List Value} {L:List (List UInt8)} (h:IsBBp w P a n c vs L):At w a vs:=by
 obtain ⟨h1,h2,h3,h4,h5 | ⟨b,off,rfl,hP,hlt,hc⟩⟩:=h
 · have:vs=[]:=List.eq_nil_of_length_eq_zero (by rw [h4.1,h5];rfl)
   rw [this];exact At.nil _ _
 · exact At.of_cells hc
theorem IsBBp.of {w:World} {B:Nat} {a:Option Addr} {n c:Nat} {L:List (List UInt8)} (h:IsBB w B a n c L):∃ vs,IsBBp w (fun k=>k<w.heap.size) a n c vs L:=by
 obtain ⟨h1,h2,h3,h4⟩:=h
 by_cases h0:L=[]
 · exact ⟨[],h1,h2,h3,by rw [h0];exact BBv.nil _ _,.inl h0⟩
 rcases h4 with h4 | ⟨b,off,rfl,hB,hlt,hc⟩
 · exact absurd h4 h0
 obtain ⟨vs,hvl,hv⟩:=take_choose (α:=Value) L.length (fun i v=>w.cell? ⟨b,off+i,none⟩=some v∧∀ hi:i<L.length,∃ a n c,v=.slice a n c∧IsB w a n c L[i]) (fun i hi=>by
   obtain ⟨u,hu,a,n,c,rfl,hb,_⟩:=hc i hi
   exact ⟨_,hu,fun _=>⟨a,n,c,rfl,hb⟩⟩)
 refine ⟨vs,h1,h2,h3,⟨hvl,fun i hi => ?_⟩,.inr ⟨b,off,rfl,hlt,hlt,fun i hi=>(hv i hi).1⟩⟩
 obtain ⟨a',n',c',h5,h6⟩:=(hv i (by omega)).2 hi
 exact ⟨a',n',c',by rw [List.getElem?_eq_getElem (by omega),h5],h6,h6.ltSize⟩
structure StA where
 ra:Option Addr
 rn:Nat
 rc:Nat
 sa:Option Addr
 sn:Nat
 sc:Nat
 sv:List Value
 aa:Option Addr
 an:Nat
 ac:Nat
 ua:Option Addr
 un:Nat
 uc:Nat
def StA.cells (x:StA) (t:Nat):List Value:=[.slice x.ra x.rn x.rc,.slice x.sa x.sn x.sc,.slice x.aa x.an x.ac,.slice x.ua x.un x.uc,.int .u64 (t:Int)]
theorem StA.one (x:StA) (t:Nat):∀ v ∈ x.cells t,v.oneCell'=true:=by
 intro v hv
 simp [StA.cells] at hv
 rcases hv with rfl | rfl | rfl | rfl | rfl <;> rfl
structure IsCf (w:World) (P:Nat→Prop) (x:StA) (c:StC):Prop where
 r:IsIp w P x.ra x.rn x.rc c.r
 s:IsBBp w P x.sa x.sn x.sc x.sv c.s
 a:IsBp w P x.aa x.an x.ac c.a
 u:IsBp w P x.ua x.un x.uc c.u
 t:c.t<18446744073709551616
theorem IsCf.touch {S P:Nat→Prop} {w w':World} {x:StA} {c:StC} (h:IsCf w P x c) (ht:Touch S w w') (hs:∀ k,P k→¬ S k):IsCf w' P x c:=⟨h.r.touch ht hs,h.s.touch ht hs,h.a.touch ht hs,h.u.touch ht hs,h.t⟩
theorem IsCf.below {P:Nat→Prop} {w w':World} {x:StA} {c:StC} (h:IsCf w P x c) (hb:Below w.heap.size w w'):IsCf w' P x c:=⟨h.r.below hb,h.s.below hb,h.a.below hb,h.u.below hb,h.t⟩
theorem IsCf.imp {P Q:Nat→Prop} {w:World} {x:StA} {c:StC} (h:IsCf w P x c) (hq:∀ k,P k→Q k):IsCf w Q x c:=⟨h.r.imp hq,h.s.imp hq,h.a.imp hq,h.u.imp hq,h.t⟩
def mayB (c:StC):Bool:=decide (1≤c.r.length) && decide (c.r.length≤8) && decide (1≤c.s.length) && decide (c.s.length≤8) && decide (c.t≤1099511627776) && okB c.r c.r.length && secB c.a && secB c.u && c.s.all secB
theorem secB_iff (b:List UInt8):secB b=true↔1≤b.length∧b.length≤16:=by simp [secB]
theorem mayB_iff (c:StC):mayB c=true↔c.may:=by
 unfold mayB
 simp only [Bool.and_eq_true,decide_eq_true_eq,secB_iff,List.all_eq_true]
 constructor
 · rintro ⟨⟨⟨⟨⟨⟨⟨⟨h1,h2⟩,h3⟩,h4⟩,h5⟩,h6⟩,h7⟩,h8⟩,h9⟩
   unfold okB at h6
   simp only [Bool.and_eq_true,decide_eq_true_eq,inB_iff] at h6
   exact ⟨⟨h1,h2,rfl,h6.2⟩,⟨h3,h4⟩,h9,h7,h8,h5⟩
 · intro h
   obtain ⟨h1,h2,_,h3⟩:=h.r
   refine ⟨⟨⟨⟨⟨⟨⟨⟨h1,h2⟩,h.s.1⟩,h.s.2⟩,h.t⟩,?_⟩,h.a⟩,h.u⟩,h.e⟩
   unfold okB
   simp only [Bool.and_eq_true,decide_eq_true_eq,inB_iff]
   exact ⟨⟨by omega,trivial⟩,h3⟩
/- The package stores: may;conditions: those typed. -/
open Go.RowKit
set_option linter.unusedVariables false
set_option linter.unusedSimpArgs false
theorem may1_any (a:Option Addr) (n c:Nat) (b:List UInt8) (w:World) (hn:n=b.length) (hm:b.length≤9223372036854775807) :
   Calls Tryz.prog 126 #[.slice a n c] w fun e w' => e=.returned (.bool (!secB b))∧w=w':=by
 subst hn
 go_enter Tryz.func126,Tryz.ntmps126
 go_wp2_with fail
 refine (secret_any a b.length c b w rfl hm).mono ?_;rintro e w1 ⟨rfl,rfl⟩
 go_wp2_with fail
 go_ret
 exact ⟨rfl,rfl⟩
set_option maxRecDepth 100000 in
set_option maxHeartbeats 2000000 in
theorem sidx_any (P:Nat→Prop) (a:Option Addr) (n c:Nat) (vs:List Value) (L:List (List UInt8)) (w:World) (h:IsBBp w P a n c vs L) :
   Calls Tryz.prog 186 #[.slice a n c,.func (.func 126) #[] #[]] w fun e w' => (∃ i:Int,e=.returned (.int .i64 i)∧decide (0≤i) = !L.all secB)∧w=w':=by
 obtain ⟨rfl,h1,h2,hv,hc⟩:=h
 have hm:L.length≤9223372036854775807:=by unfold maxLen at h2;omega
 have HC:Hid (∀ k (h:k<L.length),∃ b off x y z,a=some ⟨b,off,none⟩∧w.cell? ⟨b,off+k,none⟩=some (.slice x y z)∧IsB w x y z L[k]):=Lib.hid (fun k hk=>by
   rcases hc with h0 | ⟨b,off,rfl,_,_,hc⟩
   · rw [h0] at hk;simp at hk
   · obtain ⟨x,y,z,h3,h4⟩:=hv.2 k hk
     have hkv:k<vs.length:=by rw [hv.1];exact hk
     rw [List.getElem?_eq_getElem hkv] at h3
     have:=hc k hkv
     rw [Option.some.inj h3] at this
     exact ⟨b,off,x,y,z,rfl,this,h4.1⟩)
 clear h1 h2 hv hc
 obtain ⟨N,hN⟩:∃ N,N=L.length:=⟨_,rfl⟩
 have HN:=Lib.hid hN
 clear hN
 go_enter Tryz.func186,Tryz.ntmps186
 go_wp2_with fail
 go_loop [8] (fun i => ∃ k:Nat,k≤L.length∧i=.int .i64 k∧Hid (∀ j (hj:j<L.length),j<k→secB L[j]=true)) (fun i=>N - (intOf i).toNat)
 case atStart=>exact ⟨0,Nat.zero_le _,rfl,Lib.hid (fun j hj h=>by omega)⟩
 case round =>
   obtain ⟨k,hk,rfl,HS⟩:=hrel
   by_cases hlt:k<L.length
   · obtain ⟨b,off,x,y,z,rfl,hcell,hb⟩:=HC.out k hlt
     have hbn:=hb.1
     have hbm:L[k].length≤9223372036854775807:=by have:=hb.2.1;have:=hb.2.2.1;unfold maxLen at this;omega
     have hsec:Hid (secB L[k]=true→∀ j (hj:j<L.length),j<k+1→secB L[j]=true):=Lib.hid (fun hs j hj h=>by
       by_cases hjk:j=k
       · subst hjk;exact hs
       · exact HS.out j hj (by omega))
     have hbad:Hid (secB L[k]=false→L.all secB=false):=Lib.hid (fun hs=>by
       rw [Bool.eq_false_iff]
       intro e
       have:=(List.all_eq_true.1 e) L[k] (List.getElem_mem hlt)
       rw [hs] at this;cases this)
     generalize L[k]=lk at hb hbn hbm hsec hbad
     have HB:=Lib.hid hb
     clear hb
     have HBN:=Lib.hid hbn
     clear hbn
     go_wp2_with fail
     refine (may1_any x y z lk w HBN.out hbm).mono ?_;rintro e w1 ⟨rfl,rfl⟩
     cases hq:secB lk with
     | true =>
       have HS2:=Lib.hid (hsec.out hq)
       clear hq
       go_wp2_with fail
       go_round
       case rel=>exact ⟨k+1,by omega,by go_num,HS2⟩
       case measure=>have:=HN.out;simp [intOf];omega
     | false =>
       have HA:=Lib.hid (hbad.out hq)
       clear hq
       go_wp2_with fail
       go_ret
       exact ⟨⟨k,rfl,by rw [HA.out];simp⟩,rfl⟩
   · have hkk:k=L.length:=by omega
     have HA:Hid (L.all secB=true):=Lib.hid (List.all_eq_true.2 (fun x hx=>by obtain ⟨i,hi,rfl⟩:=List.getElem_of_mem hx;exact HS.out i hi (by omega)))
     subst hkk
     go_wp2_with fail
     go_ret
     exact ⟨⟨-1,rfl,by rw [HA.out];rfl⟩,rfl⟩
theorem scontains_any (P:Nat→Prop) (a:Option Addr) (n c:Nat) (vs:List Value) (L:List (List UInt8)) (w:World) (h:IsBBp w P a n c vs L) :
   Calls Tryz.prog 125 #[.slice a n c,.func (.func 126) #[] #[]] w fun e w' => e=.returned (.bool (!L.all secB))∧w=w':=by
 go_enter Tryz.func125,Tryz.ntmps125
 go_wp2_with fail
 refine (sidx_any P a n c vs L w h).mono ?_;rintro e w1 ⟨⟨i,rfl,hi⟩,rfl⟩
 have HI:=Lib.hid hi
 clear hi h
 go_wp2_with fail
 go_ret
 exact ⟨by rw [← HI.out];rfl,rfl⟩
set_option maxRecDepth 100000 in
set_option maxHeartbeats 8000000 in
theorem may_any (P:Nat→Prop) (x:StA) (c:StC) (w:World) (h:IsCf w P x c) :
   Calls Tryz.prog 51 #[.agg (x.cells c.t).toArray] w fun e w' => e=.returned (.bool (mayB c))∧Below w.heap.size w w':=by
 obtain ⟨ra,rn,rc,sa,sn,sc,sv,aa,an,ac,ua,un,uc⟩:=x
 obtain ⟨hr,hs,ha,hu,ht⟩:=h
 dsimp only at hr hs ha hu ⊢
 unfold StA.cells
 dsimp only
 have hb0:Below w.heap.size w (w.alloc (.cells #[.slice ra rn rc,.slice sa sn sc,.slice aa an ac,.slice ua un uc,.int .u64 (c.t:Int)] 27)):=(Below.refl _ _).alloc (Nat.le_refl _) _
 have hv:=heap_new w (.cells #[.slice ra rn rc,.slice sa sn sc,.slice aa an ac,.slice ua un uc,.int .u64 (c.t:Int)] 27 (0,0))
 obtain rfl:=hr.1.1
 obtain rfl:=hs.1
 have han:=ha.1.1
 have hun:=hu.1.1
 have ham:c.a.length≤9223372036854775807:=by have:=ha.1.2.1;have:=ha.1.2.2.1;unfold maxLen at this;omega
 have hum:c.u.length≤9223372036854775807:=by have:=hu.1.2.1;have:=hu.1.2.2.1;unfold maxLen at this;omega
 have hrb:=hr.1.below hb0
 have hsb:=hs.below hb0
 generalize hW:w.alloc (.cells #[.slice ra c.r.length rc,.slice sa c.s.length sc,.slice aa an ac,.slice ua un uc,.int .u64 (c.t:Int)] 27)=w0 at hb0 hv hrb hsb
 have f0:w0.cell? ⟨w.heap.size,0,none⟩=some (.slice ra c.r.length rc):=by rw [cell_of_block hv];rfl
 have f1:w0.cell? ⟨w.heap.size,1,none⟩=some (.slice sa c.s.length sc):=by rw [cell_of_block hv];rfl
 have f4:w0.cell? ⟨w.heap.size,4,none⟩=some (.int .u64 (c.t:Int)):=by rw [cell_of_block hv];rfl
 have HV:=Lib.hid hv
 have HMB:Hid (mayB c=(decide (1≤c.r.length) && decide (c.r.length≤8) && decide (1≤c.s.length) && decide (c.s.length≤8) && decide (c.t≤1099511627776) && okB c.r c.r.length && secB c.a && secB c.u && c.s.all secB)):=Lib.hid rfl
 have HR:=Lib.hid hrb
 have HS:=Lib.hid hsb
 have HAN:=Lib.hid han
 have HUN:=Lib.hid hun
 clear hr hs ha hu hrb hsb hv han hun
 by_cases h1:¬ (1≤c.r.length)
 · have d1:decide ((1:Int)≤(c.r.length:Int))=false:=decide_eq_false (by omega)
   have HF:Hid (mayB c=false):=Lib.hid (by rw [HMB.out,decide_eq_false h1];simp)
   clear h1
   go_enter Tryz.func51,Tryz.ntmps51
   go_wp2_with fail
   go_ret
   exact ⟨by rw [HF.out];rfl,hb0⟩
 have h1:=Decidable.not_not.1 h1
 have d1:decide ((1:Int)≤(c.r.length:Int))=true:=decide_eq_true (by omega)
 by_cases h2:¬ (c.r.length≤8)
 · have d2:decide ((c.r.length:Int)≤8)=false:=decide_eq_false (by omega)
   have HF:Hid (mayB c=false):=Lib.hid (by rw [HMB.out,decide_eq_false h2];simp)
   clear h2
   go_enter Tryz.func51,Tryz.ntmps51
   go_wp2_with fail
   go_ret
   exact ⟨by rw [HF.out];rfl,hb0⟩
 have h2:=Decidable.not_not.1 h2
 have d2:decide ((c.r.length:Int)≤8)=true:=decide_eq_true (by omega)
 by_cases h3:¬ (1≤c.s.length)
 · have d3:decide ((1:Int)≤(c.s.length:Int))=false:=decide_eq_false (by omega)
   have HF:Hid (mayB c=false):=Lib.hid (by rw [HMB.out,decide_eq_false h3];simp)
   clear h3
   go_enter Tryz.func51,Tryz.ntmps51
   go_wp2_with fail
   go_ret
   exact ⟨by rw [HF.out];rfl,hb0⟩
 have h3:=Decidable.not_not.1 h3
 have d3:decide ((1:Int)≤(c.s.length:Int))=true:=decide_eq_true (by omega)
 by_cases h4:¬ (c.s.length≤8)
 · have d4:decide ((c.s.length:Int)≤8)=false:=decide_eq_false (by omega)
   have HF:Hid (mayB c=false):=Lib.hid (by rw [HMB.out,decide_eq_false h4];simp)
   clear h4
   go_enter Tryz.func51,Tryz.ntmps51
   go_wp2_with fail
   go_ret
   exact ⟨by rw [HF.out];rfl,hb0⟩
 have h4:=Decidable.not_not.1 h4
 have d4:decide ((c.s.length:Int)≤8)=true:=decide_eq_true (by omega)
 by_cases h5:¬ (c.t≤1099511627776)
 · have d5:decide ((c.t:Int)≤1099511627776)=false:=decide_eq_false (by omega)
   have HF:Hid (mayB c=false):=Lib.hid (by rw [HMB.out,decide_eq_false h5];simp)
   clear h5
   go_enter Tryz.func51,Tryz.ntmps51
   go_wp2_with fail
   go_ret
   exact ⟨by rw [HF.out];rfl,hb0⟩
 have h5:=Decidable.not_not.1 h5
 have d5:decide ((c.t:Int)≤1099511627776)=true:=decide_eq_true (by omega)
 have E1:Hid (mayB c=(okB c.r c.r.length && secB c.a && secB c.u && c.s.all secB)):=Lib.hid (by rw [HMB.out,decide_eq_true h1,decide_eq_true h2,decide_eq_true h3,decide_eq_true h4,decide_eq_true h5];simp)
 clear HMB
 go_enter Tryz.func51,Tryz.ntmps51
 go_wp2_with fail
 refine (vcheck_any ra c.r.length rc c.r c.r.length w0 HR.out ⟨by omega,by omega⟩).mono ?_;rintro e w1 ⟨rfl,hb1⟩
 have hv1:=below_heap hb1 HV.out (lt_of_heap HV.out)
 have g1:w1.cell? ⟨w.heap.size,1,none⟩=some (.slice sa c.s.length sc):=by rw [cell_of_block hv1];rfl
 have g2:w1.cell? ⟨w.heap.size,2,none⟩=some (.slice aa an ac):=by rw [cell_of_block hv1];rfl
 have g3:w1.cell? ⟨w.heap.size,3,none⟩=some (.slice ua un uc):=by rw [cell_of_block hv1];rfl
 have HB:Hid (Below w.heap.size w w1):=Lib.hid (hb0.trans (hb1.mono hb0.size))
 have HS1:=Lib.hid (HS.out.below hb1)
 clear hv1 hb1 hb0 f0 f1 f4 hW HS HR HV
 cases hk1:okB c.r c.r.length with
 | false =>
   have HF:Hid (mayB c=false):=Lib.hid (by rw [E1.out,hk1];rfl)
   clear hk1
   go_wp2_with fail
   go_ret
   exact ⟨by rw [HF.out];rfl,HB.out⟩
 | true =>
   have K1:=Lib.hid hk1
   clear hk1
   go_wp2_with fail
   refine (secret_any aa an ac c.a w1 HAN.out ham).mono ?_;rintro e _ ⟨rfl,rfl⟩
   cases hk2:secB c.a with
   | false =>
     have HF:Hid (mayB c=false):=Lib.hid (by rw [E1.out,K1.out,hk2];rfl)
     clear hk2
     go_wp2_with fail
     go_ret
     exact ⟨by rw [HF.out];rfl,HB.out⟩
   | true =>
     have K2:=Lib.hid hk2
     clear hk2
     go_wp2_with fail
     refine (secret_any ua un uc c.u w1 HUN.out hum).mono ?_;rintro e _ ⟨rfl,rfl⟩
     cases hk3:secB c.u with
     | false =>
       have HF:Hid (mayB c=false):=Lib.hid (by rw [E1.out,K1.out,K2.out,hk3];rfl)
       clear hk3
       go_wp2_with fail
       go_ret
       exact ⟨by rw [HF.out];rfl,HB.out⟩
     | true =>
       have K3:Hid (mayB c=c.s.all secB):=Lib.hid (by rw [E1.out,K1.out,K2.out,hk3];rfl)
       clear hk3
       go_wp2_with fail
       refine (scontains_any P sa c.s.length sc sv c.s w1 HS1.out).mono ?_;rintro e _ ⟨rfl,rfl⟩
       go_wp2_with fail
       go_ret
       exact ⟨by rw [K3.out];simp,HB.out⟩
/- Opening the arguments of layer 20's statements;no condition. -/
open Go.ChangeShapes Go.WideShapes Go.ChangeAt Go.RowKit Go.Deep
set_option linter.unusedVariables false
set_option maxRecDepth 100000
/- Opening the argument of StoresNone;no condition. -/
open Go.ChangeShapes Go.WideShapes Go.ChangeAt Go.RowKit Go.Deep
set_option linter.unusedVariables false
set_option maxRecDepth 100000
end
section
open Go.RowKit
variable {P:Nat→Prop}
set_option linter.unusedVariables false
set_option linter.unusedSimpArgs false
theorem IsRd.setCell {w:World} {br:Nat} {b:List UInt8} {bad:Bool} {bx off:Nat} {v:Value} {C:Array Value} {ty:TypeId} (h:IsRd P w br b bad) (hx:w.heap[bx]?=some (.cells C ty (0,0))) (hC:¬ P bx) (hne:bx≠br):IsRd P (w.setCell ⟨bx,off,none⟩ v) br b bad:=by
 obtain ⟨a,n,c,h1,h2,h3⟩:=h
 have ht:Touch (fun j=>j=bx) w (w.setCell ⟨bx,off,none⟩ v):=Touch.setCell (Touch.refl (fun j=>j=bx) w) ⟨bx,off,none⟩ _ (.inl rfl)
 exact ⟨a,n,c,ht.heap h1 (fun e=>hne e.symm),h2.touch ht (fun b off ha hl e=>hC (e ▸ h3 b off ha hl)),h3⟩
theorem RdTo.setCell {w:World} {br:Nat} {b:List UInt8} {o:Option (List UInt8)} {bx off:Nat} {v:Value} {C:Array Value} {ty:TypeId} (h:RdTo P w br b o) (hx:w.heap[bx]?=some (.cells C ty (0,0))) (hC:¬ P bx) (hne:bx≠br):RdTo P (w.setCell ⟨bx,off,none⟩ v) br b o:=by
 cases o with
 | none=>exact IsRd.setCell h hx hC hne
 | some r=>exact IsRd.setCell h hx hC hne
theorem clo_end {W w1:World} {br bx off:Nat} {b:List UInt8} {o:Option (List UInt8)} {C:Array Value} {ty:TypeId} (v:Value) (ht:Touch (fun j=>j=br) W w1) (hx:w1.heap[bx]?=some (.cells C ty (0,0))) (hC:¬ P bx) (hr:RdTo P w1 br b o) (hne:bx≠br) :
   Touch (fun j=>j=br∨j=bx) W (w1.setCell ⟨bx,off,none⟩ v)∧(w1.setCell ⟨bx,off,none⟩ v).heap[bx]?=some (.cells (C.setIfInBounds off v) ty (0,0))∧RdTo P (w1.setCell ⟨bx,off,none⟩ v) br b o :=
 ⟨(ht.weaken (fun _ _ h=>.inl h)).setCell _ _ (.inl (.inr rfl)),heap_setCell_same _ bx off _ _ _ hx,hr.setCell hx hC hne⟩
theorem touch_set (w:World) (bx off:Nat) (v:Value):Touch (fun j=>j=bx) w (w.setCell ⟨bx,off,none⟩ v):=Touch.setCell (Touch.refl (fun j=>j=bx) w) ⟨bx,off,none⟩ _ (.inl rfl)
theorem decN_lt (k:Nat) (b:List UInt8):(((decN k b).map (·.1)).getD 0)<256 ^ k:=by
 unfold decN
 split
 · exact Nat.pow_pos (by decide)
 · have:=numOf_lt (b.take k)
   have h:(b.take k).length=k:=by rw [List.length_take];omega
   rw [h] at this
   exact this
set_option maxHeartbeats 1000000 in
theorem clo_phase1 (b4 br bx:Nat) (T4:TypeId) (C:Array Value) (ty:TypeId) (b:List UInt8) (W:World) (h4:W.heap[b4]?=some (.cells #[.pointer (some ⟨br,0,none⟩)] T4 (0,0))) (hx:W.heap[bx]?=some (.cells C ty (0,0))) (hC:¬ P bx) (hoff:0<C.size) (hr:IsRd P W br b false) (hne:bx≠br) :
   Calls Tryz.prog 157 #[.pointer (some ⟨b4,0,none⟩),.pointer (some ⟨bx,0,none⟩)] W fun e W' => e=.returned (.tuple #[])∧∃ v,Touch (fun j=>j=br∨j=bx) W W'∧W'.heap[bx]?=some (.cells (C.setIfInBounds 0 v) ty (0,0))∧RdTo P W' br b ((decN 1 b).map (·.2))∧v=.int .u8 ((((decN 1 b).map (·.1)).getD 0:Nat):Int):=by
 have f4:W.cell? ⟨b4,0,none⟩=some (.pointer (some ⟨br,0,none⟩)):=by rw [cell_of_block h4];rfl
 obtain ⟨old,hold⟩:∃ old,C[0]?=some old:=⟨_,Array.getElem?_eq_getElem hoff⟩
 have hbx:=lt_of_heap hx
 have HX:=Lib.hid hx
 have HC:=Lib.hid hC
 have HR:=Lib.hid hr
 have HN:=Lib.hid hne
 clear h4 hx hC hr hne
 go_enter Tryz.func157,Tryz.ntmps157
 go_wp2_with fail
 refine (rnum_ok br 1 b W HR.out (by decide) (by decide)).mono ?_;rintro e w1 ⟨rfl,ht1,hr1⟩
 have hq:=decN_lt 1 b
 have hx1:=ht1.heap HX.out HN.out
 have g1:w1.cell? ⟨bx,0,none⟩=some old:=by rw [cell_of_block hx1];exact hold
 have g2:w1.frozen? ⟨bx,0,none⟩=false:=blk_free hx1
 have FIN:=Lib.hid (clo_end (off:=0) (.int .u8 ((((decN 1 b).map (·.1)).getD 0:Nat):Int)) ht1 hx1 HC.out hr1 HN.out)
 clear ht1 hr1 hx1 hold
 generalize hqe:((decN 1 b).map (·.1)).getD 0=q at hq FIN ⊢
 have HQ:=Lib.hid hqe
 have hq':q<256:=hq
 have hw:IntKind.u8.wrap (q:Int)=(q:Int):=by rw [IntKind.wrap_u8];omega
 have hw2:(q:Int) % 256=(q:Int):=by omega
 clear hq hqe
 go_wp2_with fail
 go_end0
 exact ⟨rfl,_,FIN.out.1,FIN.out.2.1,FIN.out.2.2,by rw [HQ.out]⟩
set_option maxHeartbeats 1000000 in
theorem clo_phase2 (b4 br bx:Nat) (T4:TypeId) (C:Array Value) (ty:TypeId) (b:List UInt8) (W:World) (h4:W.heap[b4]?=some (.cells #[.pointer (some ⟨br,0,none⟩)] T4 (0,0))) (hx:W.heap[bx]?=some (.cells C ty (0,0))) (hC:¬ P bx) (hoff:0<C.size) (hr:IsRd P W br b false) (hne:bx≠br) :
   Calls Tryz.prog 158 #[.pointer (some ⟨b4,0,none⟩),.pointer (some ⟨bx,0,none⟩)] W fun e W' => e=.returned (.tuple #[])∧∃ v,Touch (fun j=>j=br∨j=bx) W W'∧W'.heap[bx]?=some (.cells (C.setIfInBounds 0 v) ty (0,0))∧RdTo P W' br b ((decL b).map (·.2))∧ListV W.heap.size W' v (decL b):=by
 have f4:W.cell? ⟨b4,0,none⟩=some (.pointer (some ⟨br,0,none⟩)):=by rw [cell_of_block h4];rfl
 obtain ⟨old,hold⟩:∃ old,C[0]?=some old:=⟨_,Array.getElem?_eq_getElem hoff⟩
 have hbx:=lt_of_heap hx
 have HX:=Lib.hid hx
 have HC:=Lib.hid hC
 have HR:=Lib.hid hr
 have HN:=Lib.hid hne
 clear h4 hx hC hr hne
 go_enter Tryz.func158,Tryz.ntmps158
 go_wp2_with fail
 refine (rlist_ok br b W HR.out).mono ?_;rintro e w1 ⟨v,rfl,ht1,hr1,hv1⟩
 have hx1:=ht1.heap HX.out HN.out
 have g1:w1.cell? ⟨bx,0,none⟩=some old:=by rw [cell_of_block hx1];exact hold
 have g2:w1.frozen? ⟨bx,0,none⟩=false:=blk_free hx1
 have FIN:=Lib.hid (clo_end (off:=0) v ht1 hx1 HC.out hr1 HN.out)
 have HV:=Lib.hid (hv1.touch (touch_set w1 bx 0 v) (fun k hk e=>by omega))
 obtain ⟨va,vn,vc,rfl⟩:=hv1.one
 clear ht1 hr1 hx1 hold hv1
 go_wp2_with fail
 go_end0
 exact ⟨rfl,_,FIN.out.1,FIN.out.2.1,FIN.out.2.2,HV.out⟩
set_option maxHeartbeats 1000000 in
theorem clo_record1 (b4 br bx:Nat) (T4:TypeId) (C:Array Value) (ty:TypeId) (b:List UInt8) (W:World) (h4:W.heap[b4]?=some (.cells #[.pointer (some ⟨br,0,none⟩)] T4 (0,0))) (hx:W.heap[bx]?=some (.cells C ty (0,0))) (hC:¬ P bx) (hoff:0<C.size) (hr:IsRd P W br b false) (hne:bx≠br) :
   Calls Tryz.prog 159 #[.pointer (some ⟨b4,0,none⟩),.pointer (some ⟨bx,0,none⟩)] W fun e W' => e=.returned (.tuple #[])∧∃ v,Touch (fun j=>j=br∨j=bx) W W'∧W'.heap[bx]?=some (.cells (C.setIfInBounds 0 v) ty (0,0))∧RdTo P W' br b ((decN 4 b).map (·.2))∧v=.int .u32 ((((decN 4 b).map (·.1)).getD 0:Nat):Int):=by
 have f4:W.cell? ⟨b4,0,none⟩=some (.pointer (some ⟨br,0,none⟩)):=by rw [cell_of_block h4];rfl
 obtain ⟨old,hold⟩:∃ old,C[0]?=some old:=⟨_,Array.getElem?_eq_getElem hoff⟩
 have hbx:=lt_of_heap hx
 have HX:=Lib.hid hx
 have HC:=Lib.hid hC
 have HR:=Lib.hid hr
 have HN:=Lib.hid hne
 clear h4 hx hC hr hne
 go_enter Tryz.func159,Tryz.ntmps159
 go_wp2_with fail
 refine (rnum_ok br 4 b W HR.out (by decide) (by decide)).mono ?_;rintro e w1 ⟨rfl,ht1,hr1⟩
 have hq:=decN_lt 4 b
 have hx1:=ht1.heap HX.out HN.out
 have g1:w1.cell? ⟨bx,0,none⟩=some old:=by rw [cell_of_block hx1];exact hold
 have g2:w1.frozen? ⟨bx,0,none⟩=false:=blk_free hx1
 have FIN:=Lib.hid (clo_end (off:=0) (.int .u32 ((((decN 4 b).map (·.1)).getD 0:Nat):Int)) ht1 hx1 HC.out hr1 HN.out)
 clear ht1 hr1 hx1 hold
 generalize hqe:((decN 4 b).map (·.1)).getD 0=q at hq FIN ⊢
 have HQ:=Lib.hid hqe
 have hq':q<4294967296:=hq
 have hw:IntKind.u32.wrap (q:Int)=(q:Int):=by rw [IntKind.wrap_u32];omega
 have hw2:(q:Int) % 4294967296=(q:Int):=by omega
 clear hq hqe
 go_wp2_with fail
 go_end0
 exact ⟨rfl,_,FIN.out.1,FIN.out.2.1,FIN.out.2.2,by rw [HQ.out]⟩
set_option maxHeartbeats 1000000 in
theorem clo_record2 (b4 br bx:Nat) (T4:TypeId) (C:Array Value) (ty:TypeId) (b:List UInt8) (W:World) (h4:W.heap[b4]?=some (.cells #[.pointer (some ⟨br,0,none⟩)] T4 (0,0))) (hx:W.heap[bx]?=some (.cells C ty (0,0))) (hC:¬ P bx) (hoff:0<C.size) (hr:IsRd P W br b false) (hne:bx≠br) :
   Calls Tryz.prog 160 #[.pointer (some ⟨b4,0,none⟩),.pointer (some ⟨bx,0,none⟩)] W fun e W' => e=.returned (.tuple #[])∧∃ v,Touch (fun j=>j=br∨j=bx) W W'∧W'.heap[bx]?=some (.cells (C.setIfInBounds 0 v) ty (0,0))∧RdTo P W' br b ((decN 1 b).map (·.2))∧v=.int .u64 ((((decN 1 b).map (·.1)).getD 0:Nat):Int):=by
 have f4:W.cell? ⟨b4,0,none⟩=some (.pointer (some ⟨br,0,none⟩)):=by rw [cell_of_block h4];rfl
 obtain ⟨old,hold⟩:∃ old,C[0]?=some old:=⟨_,Array.getElem?_eq_getElem hoff⟩
 have hbx:=lt_of_heap hx
 have HX:=Lib.hid hx
 have HC:=Lib.hid hC
 have HR:=Lib.hid hr
 have HN:=Lib.hid hne
 clear h4 hx hC hr hne
 go_enter Tryz.func160,Tryz.ntmps160
 go_wp2_with fail
 refine (rnum_ok br 1 b W HR.out (by decide) (by decide)).mono ?_;rintro e w1 ⟨rfl,ht1,hr1⟩
 have hq:=decN_lt 1 b
 have hx1:=ht1.heap HX.out HN.out
 have g1:w1.cell? ⟨bx,0,none⟩=some old:=by rw [cell_of_block hx1];exact hold
 have g2:w1.frozen? ⟨bx,0,none⟩=false:=blk_free hx1
 have FIN:=Lib.hid (clo_end (off:=0) (.int .u64 ((((decN 1 b).map (·.1)).getD 0:Nat):Int)) ht1 hx1 HC.out hr1 HN.out)
 clear ht1 hr1 hx1 hold
 generalize hqe:((decN 1 b).map (·.1)).getD 0=q at hq FIN ⊢
 have HQ:=Lib.hid hqe
 have hq':q<256:=hq
 clear hq hqe
 go_wp2_with fail
 go_end0
 exact ⟨rfl,_,FIN.out.1,FIN.out.2.1,FIN.out.2.2,by rw [HQ.out]⟩
set_option maxHeartbeats 1000000 in
theorem clo_record3 (b4 br bx:Nat) (T4:TypeId) (C:Array Value) (ty:TypeId) (b:List UInt8) (W:World) (h4:W.heap[b4]?=some (.cells #[.pointer (some ⟨br,0,none⟩)] T4 (0,0))) (hx:W.heap[bx]?=some (.cells C ty (0,0))) (hC:¬ P bx) (hoff:2<C.size) (hr:IsRd P W br b false) (hne:bx≠br) :
   Calls Tryz.prog 161 #[.pointer (some ⟨b4,0,none⟩),.pointer (some ⟨bx,0,none⟩)] W fun e W' => e=.returned (.tuple #[])∧∃ v,Touch (fun j=>j=br∨j=bx) W W'∧W'.heap[bx]?=some (.cells (C.setIfInBounds 2 v) ty (0,0))∧RdTo P W' br b ((decL b).map (·.2))∧ListV W.heap.size W' v (decL b):=by
 have f4:W.cell? ⟨b4,0,none⟩=some (.pointer (some ⟨br,0,none⟩)):=by rw [cell_of_block h4];rfl
 obtain ⟨old,hold⟩:∃ old,C[2]?=some old:=⟨_,Array.getElem?_eq_getElem hoff⟩
 have hbx:=lt_of_heap hx
 have HX:=Lib.hid hx
 have HC:=Lib.hid hC
 have HR:=Lib.hid hr
 have HN:=Lib.hid hne
 clear h4 hx hC hr hne
 go_enter Tryz.func161,Tryz.ntmps161
 go_wp2_with fail
 refine (rlist_ok br b W HR.out).mono ?_;rintro e w1 ⟨v,rfl,ht1,hr1,hv1⟩
 have hx1:=ht1.heap HX.out HN.out
 have g1:w1.cell? ⟨bx,2,none⟩=some old:=by rw [cell_of_block hx1];exact hold
 have g2:w1.frozen? ⟨bx,2,none⟩=false:=blk_free hx1
 have FIN:=Lib.hid (clo_end (off:=2) v ht1 hx1 HC.out hr1 HN.out)
 have HV:=Lib.hid (hv1.touch (touch_set w1 bx 2 v) (fun k hk e=>by omega))
 obtain ⟨va,vn,vc,rfl⟩:=hv1.one
 clear ht1 hr1 hx1 hold hv1
 go_wp2_with fail
 go_end0
 exact ⟨rfl,_,FIN.out.1,FIN.out.2.1,FIN.out.2.2,HV.out⟩
set_option maxHeartbeats 1000000 in
theorem clo_get1 (b4 br bx:Nat) (T4:TypeId) (C:Array Value) (ty:TypeId) (b:List UInt8) (W:World) (h4:W.heap[b4]?=some (.cells #[.pointer (some ⟨br,0,none⟩)] T4 (0,0))) (hx:W.heap[bx]?=some (.cells C ty (0,0))) (hC:¬ P bx) (hoff:0<C.size) (hr:IsRd P W br b false) (hne:bx≠br) :
   Calls Tryz.prog 148 #[.pointer (some ⟨b4,0,none⟩),.pointer (some ⟨bx,0,none⟩)] W fun e W' => e=.returned (.tuple #[])∧∃ v,Touch (fun j=>j=br∨j=bx) W W'∧W'.heap[bx]?=some (.cells (C.setIfInBounds 0 v) ty (0,0))∧RdTo P W' br b ((decL b).map (·.2))∧ListV W.heap.size W' v (decL b):=by
 have f4:W.cell? ⟨b4,0,none⟩=some (.pointer (some ⟨br,0,none⟩)):=by rw [cell_of_block h4];rfl
 obtain ⟨old,hold⟩:∃ old,C[0]?=some old:=⟨_,Array.getElem?_eq_getElem hoff⟩
 have hbx:=lt_of_heap hx
 have HX:=Lib.hid hx
 have HC:=Lib.hid hC
 have HR:=Lib.hid hr
 have HN:=Lib.hid hne
 clear h4 hx hC hr hne
 go_enter Tryz.func148,Tryz.ntmps148
 go_wp2_with fail
 refine (rlist_ok br b W HR.out).mono ?_;rintro e w1 ⟨v,rfl,ht1,hr1,hv1⟩
 have hx1:=ht1.heap HX.out HN.out
 have g1:w1.cell? ⟨bx,0,none⟩=some old:=by rw [cell_of_block hx1];exact hold
 have g2:w1.frozen? ⟨bx,0,none⟩=false:=blk_free hx1
 have FIN:=Lib.hid (clo_end (off:=0) v ht1 hx1 HC.out hr1 HN.out)
 have HV:=Lib.hid (hv1.touch (touch_set w1 bx 0 v) (fun k hk e=>by omega))
 obtain ⟨va,vn,vc,rfl⟩:=hv1.one
 clear ht1 hr1 hx1 hold hv1
 go_wp2_with fail
 go_end0
 exact ⟨rfl,_,FIN.out.1,FIN.out.2.1,FIN.out.2.2,HV.out⟩
set_option maxHeartbeats 1000000 in
theorem clo_get2 (b4 br bx:Nat) (T4:TypeId) (C:Array Value) (ty:TypeId) (b:List UInt8) (W:World) (h4:W.heap[b4]?=some (.cells #[.pointer (some ⟨br,0,none⟩)] T4 (0,0))) (hx:W.heap[bx]?=some (.cells C ty (0,0))) (hC:¬ P bx) (hoff:0<C.size) (hr:IsRd P W br b false) (hne:bx≠br) :
   Calls Tryz.prog 150 #[.pointer (some ⟨b4,0,none⟩),.pointer (some ⟨bx,0,none⟩)] W fun e W' => e=.returned (.tuple #[])∧∃ v,Touch (fun j=>j=br∨j=bx) W W'∧W'.heap[bx]?=some (.cells (C.setIfInBounds 0 v) ty (0,0))∧RdTo P W' br b ((decN 1 b).map (·.2))∧v=.int .i64 ((((decN 1 b).map (·.1)).getD 0:Nat):Int):=by
 have f4:W.cell? ⟨b4,0,none⟩=some (.pointer (some ⟨br,0,none⟩)):=by rw [cell_of_block h4];rfl
 obtain ⟨old,hold⟩:∃ old,C[0]?=some old:=⟨_,Array.getElem?_eq_getElem hoff⟩
 have hbx:=lt_of_heap hx
 have HX:=Lib.hid hx
 have HC:=Lib.hid hC
 have HR:=Lib.hid hr
 have HN:=Lib.hid hne
 clear h4 hx hC hr hne
 go_enter Tryz.func150,Tryz.ntmps150
 go_wp2_with fail
 refine (rnum_ok br 1 b W HR.out (by decide) (by decide)).mono ?_;rintro e w1 ⟨rfl,ht1,hr1⟩
 have hq:=decN_lt 1 b
 have hx1:=ht1.heap HX.out HN.out
 have g1:w1.cell? ⟨bx,0,none⟩=some old:=by rw [cell_of_block hx1];exact hold
 have g2:w1.frozen? ⟨bx,0,none⟩=false:=blk_free hx1
 have FIN:=Lib.hid (clo_end (off:=0) (.int .i64 ((((decN 1 b).map (·.1)).getD 0:Nat):Int)) ht1 hx1 HC.out hr1 HN.out)
 clear ht1 hr1 hx1 hold
 generalize hqe:((decN 1 b).map (·.1)).getD 0=q at hq FIN ⊢
 have HQ:=Lib.hid hqe
 have hq':q<256:=hq
 clear hq hqe
 go_wp2_with fail
 go_end0
 exact ⟨rfl,_,FIN.out.1,FIN.out.2.1,FIN.out.2.2,by rw [HQ.out]⟩
set_option maxHeartbeats 1000000 in
theorem clo_get4 (b4 br bx:Nat) (T4:TypeId) (C:Array Value) (ty:TypeId) (b:List UInt8) (W:World) (h4:W.heap[b4]?=some (.cells #[.pointer (some ⟨br,0,none⟩)] T4 (0,0))) (hx:W.heap[bx]?=some (.cells C ty (0,0))) (hC:¬ P bx) (hoff:2<C.size) (hr:IsRd P W br b false) (hne:bx≠br) :
   Calls Tryz.prog 154 #[.pointer (some ⟨b4,0,none⟩),.pointer (some ⟨bx,0,none⟩)] W fun e W' => e=.returned (.tuple #[])∧∃ v,Touch (fun j=>j=br∨j=bx) W W'∧W'.heap[bx]?=some (.cells (C.setIfInBounds 2 v) ty (0,0))∧RdTo P W' br b ((decB b).map (·.2))∧BytesV W.heap.size W' v (decB b):=by
 have f4:W.cell? ⟨b4,0,none⟩=some (.pointer (some ⟨br,0,none⟩)):=by rw [cell_of_block h4];rfl
 obtain ⟨old,hold⟩:∃ old,C[2]?=some old:=⟨_,Array.getElem?_eq_getElem hoff⟩
 have hbx:=lt_of_heap hx
 have HX:=Lib.hid hx
 have HC:=Lib.hid hC
 have HR:=Lib.hid hr
 have HN:=Lib.hid hne
 clear h4 hx hC hr hne
 go_enter Tryz.func154,Tryz.ntmps154
 go_wp2_with fail
 refine (rbytes_ok br b W HR.out).mono ?_;rintro e w1 ⟨v,rfl,ht1,hr1,hv1⟩
 have hx1:=ht1.heap HX.out HN.out
 have g1:w1.cell? ⟨bx,2,none⟩=some old:=by rw [cell_of_block hx1];exact hold
 have g2:w1.frozen? ⟨bx,2,none⟩=false:=blk_free hx1
 have FIN:=Lib.hid (clo_end (off:=2) v ht1 hx1 HC.out hr1 HN.out)
 have HV:=Lib.hid (hv1.touch (touch_set w1 bx 2 v) (fun k hk e=>by omega))
 obtain ⟨va,vn,vc,rfl⟩:=hv1.one
 clear ht1 hr1 hx1 hold hv1
 go_wp2_with fail
 go_end0
 exact ⟨rfl,_,FIN.out.1,FIN.out.2.1,FIN.out.2.2,HV.out⟩
set_option maxHeartbeats 1000000 in
theorem clo_get5 (b4 br bx:Nat) (T4:TypeId) (C:Array Value) (ty:TypeId) (b:List UInt8) (W:World) (h4:W.heap[b4]?=some (.cells #[.pointer (some ⟨br,0,none⟩)] T4 (0,0))) (hx:W.heap[bx]?=some (.cells C ty (0,0))) (hC:¬ P bx) (hoff:3<C.size) (hr:IsRd P W br b false) (hne:bx≠br) :
   Calls Tryz.prog 155 #[.pointer (some ⟨b4,0,none⟩),.pointer (some ⟨bx,0,none⟩)] W fun e W' => e=.returned (.tuple #[])∧∃ v,Touch (fun j=>j=br∨j=bx) W W'∧W'.heap[bx]?=some (.cells (C.setIfInBounds 3 v) ty (0,0))∧RdTo P W' br b ((decB b).map (·.2))∧BytesV W.heap.size W' v (decB b):=by
 have f4:W.cell? ⟨b4,0,none⟩=some (.pointer (some ⟨br,0,none⟩)):=by rw [cell_of_block h4];rfl
 obtain ⟨old,hold⟩:∃ old,C[3]?=some old:=⟨_,Array.getElem?_eq_getElem hoff⟩
 have hbx:=lt_of_heap hx
 have HX:=Lib.hid hx
 have HC:=Lib.hid hC
 have HR:=Lib.hid hr
 have HN:=Lib.hid hne
 clear h4 hx hC hr hne
 go_enter Tryz.func155,Tryz.ntmps155
 go_wp2_with fail
 refine (rbytes_ok br b W HR.out).mono ?_;rintro e w1 ⟨v,rfl,ht1,hr1,hv1⟩
 have hx1:=ht1.heap HX.out HN.out
 have g1:w1.cell? ⟨bx,3,none⟩=some old:=by rw [cell_of_block hx1];exact hold
 have g2:w1.frozen? ⟨bx,3,none⟩=false:=blk_free hx1
 have FIN:=Lib.hid (clo_end (off:=3) v ht1 hx1 HC.out hr1 HN.out)
 have HV:=Lib.hid (hv1.touch (touch_set w1 bx 3 v) (fun k hk e=>by omega))
 obtain ⟨va,vn,vc,rfl⟩:=hv1.one
 clear ht1 hr1 hx1 hold hv1
 go_wp2_with fail
 go_end0
 exact ⟨rfl,_,FIN.out.1,FIN.out.2.1,FIN.out.2.2,HV.out⟩
set_option maxHeartbeats 1000000 in
theorem clo_get6 (b4 br bx:Nat) (T4:TypeId) (C:Array Value) (ty:TypeId) (b:List UInt8) (W:World) (h4:W.heap[b4]?=some (.cells #[.pointer (some ⟨br,0,none⟩)] T4 (0,0))) (hx:W.heap[bx]?=some (.cells C ty (0,0))) (hC:¬ P bx) (hoff:4<C.size) (hr:IsRd P W br b false) (hne:bx≠br) :
   Calls Tryz.prog 156 #[.pointer (some ⟨b4,0,none⟩),.pointer (some ⟨bx,0,none⟩)] W fun e W' => e=.returned (.tuple #[])∧∃ v,Touch (fun j=>j=br∨j=bx) W W'∧W'.heap[bx]?=some (.cells (C.setIfInBounds 4 v) ty (0,0))∧RdTo P W' br b ((decN 8 b).map (·.2))∧v=.int .u64 ((((decN 8 b).map (·.1)).getD 0:Nat):Int):=by
 have f4:W.cell? ⟨b4,0,none⟩=some (.pointer (some ⟨br,0,none⟩)):=by rw [cell_of_block h4];rfl
 obtain ⟨old,hold⟩:∃ old,C[4]?=some old:=⟨_,Array.getElem?_eq_getElem hoff⟩
 have hbx:=lt_of_heap hx
 have HX:=Lib.hid hx
 have HC:=Lib.hid hC
 have HR:=Lib.hid hr
 have HN:=Lib.hid hne
 clear h4 hx hC hr hne
 go_enter Tryz.func156,Tryz.ntmps156
 go_wp2_with fail
 refine (rnum_ok br 8 b W HR.out (by decide) (by decide)).mono ?_;rintro e w1 ⟨rfl,ht1,hr1⟩
 have hq:=decN_lt 8 b
 have hx1:=ht1.heap HX.out HN.out
 have g1:w1.cell? ⟨bx,4,none⟩=some old:=by rw [cell_of_block hx1];exact hold
 have g2:w1.frozen? ⟨bx,4,none⟩=false:=blk_free hx1
 have FIN:=Lib.hid (clo_end (off:=4) (.int .u64 ((((decN 8 b).map (·.1)).getD 0:Nat):Int)) ht1 hx1 HC.out hr1 HN.out)
 clear ht1 hr1 hx1 hold
 generalize hqe:((decN 8 b).map (·.1)).getD 0=q at hq FIN ⊢
 have HQ:=Lib.hid hqe
 have hq':q<18446744073709551616:=hq
 clear hq hqe
 go_wp2_with fail
 go_end0
 exact ⟨rfl,_,FIN.out.1,FIN.out.2.1,FIN.out.2.2,by rw [HQ.out]⟩
/- The package stores: a store in memory;small contracts;conditions: those typed. -/
open Go.RowKit
set_option linter.unusedVariables false
set_option linter.unusedSimpArgs false
theorem stroom_any (w:World):Calls Tryz.prog 146 #[] w fun e w' => e=.returned (.int .i64 12)∧w=w':=by
 go_enter Tryz.func146,Tryz.ntmps146
 go_wp2
 go_ret
 exact ⟨rfl,rfl⟩
theorem stconfig_any (w:World):Calls Tryz.prog 54 #[] w fun e w' => e=.returned (.int .i64 ((0:Nat):Int))∧w=w':=by
 go_enter Tryz.func54,Tryz.ntmps54
 go_wp2
 go_ret
 exact ⟨rfl,rfl⟩
theorem stphase_any (w:World):Calls Tryz.prog 71 #[] w fun e w' => e=.returned (.int .i64 ((12:Nat):Int))∧w=w':=by
 go_enter Tryz.func71,Tryz.ntmps71
 go_wp2_with fail
 refine (stroom_any w).mono ?_;rintro e w1 ⟨rfl,rfl⟩
 go_wp2_with fail
 go_ret
 exact ⟨rfl,rfl⟩
theorem strecord_any (k:Nat) (hk:k≤100000) (w:World):Calls Tryz.prog 85 #[.int .i64 k] w fun e w' => e=.returned (.int .i64 ((12*(2+k):Nat):Int))∧w=w':=by
 have he:Hid ((2+(k:Int))*12=((12*(2+k):Nat):Int)):=Lib.hid (by push_cast;omega)
 go_enter Tryz.func85,Tryz.ntmps85
 go_wp2_with fail
 refine (stroom_any w).mono ?_;rintro e w1 ⟨rfl,rfl⟩
 go_wp2_with fail
 go_ret
 exact ⟨by rw [← he.out];rfl,rfl⟩
theorem get_i (bd bl:Nat) (D:Dsk) (p:Nat) (pI:Int) (w:World) (hp:pI=(p:Int)) (h:IsDisk w bd bl D) :
   Calls Tryz.prog 53 #[.pointer (some ⟨bd,0,none⟩),.int .i64 pI] w fun e w' => ∃ a,e=.returned (.tuple #[.int .u32 (D.get (p:Int)).1,.slice a (D.get (p:Int)).2.1.length (D.get (p:Int)).2.1.length,.int .i64 (D.get (p:Int)).2.2])∧Below w.heap.size w w'∧IsB w' a (D.get (p:Int)).2.1.length (D.get (p:Int)).2.1.length (D.get (p:Int)).2.1∧∀ k off,a=some ⟨k,off,none⟩→w.heap.size≤k:=by
 subst hp
 refine (get_own bd bl D (p:Int) w h).mono ?_
 rintro e w' ⟨a,h1,h2,h3,c,h4⟩
 exact ⟨a,h1,h2,h3,fun k off ha=>by subst ha;exact owns_base h4 k rfl⟩
structure IsStore (w:World) (bs bd bl:Nat) (x:StA) (c:StC) (D:Dsk):Prop where
 cells:w.heap[bs]?=some (.cells (x.cells c.t ++ [Value.pointer (some ⟨bd,0,none⟩)]).toArray 111 (0,0))
 disk:IsDisk w bd bl D
 cfg:IsCf w (fun k => ¬ (k=bd∨k=bl)) x c
 ne:¬ (bs=bd∨bs=bl)
theorem IsStore.below {w w':World} {bs bd bl:Nat} {x:StA} {c:StC} {D:Dsk} (h:IsStore w bs bd bl x c D) (hb:Below w.heap.size w w'):IsStore w' bs bd bl x c D :=
 ⟨below_heap hb h.cells (lt_of_heap h.cells),h.disk.touch (Touch.of_below (S:=fun _=>False) hb) id id,h.cfg.below hb,h.ne⟩
theorem IsStore.put {w w':World} {bs bd bl:Nat} {x:StA} {c:StC} {D D':Dsk} (h:IsStore w bs bd bl x c D) (ht:Touch (fun k=>k=bd∨k=bl) w w') (hd:IsDisk w' bd bl D'):IsStore w' bs bd bl x c D' :=
 ⟨ht.heap h.cells h.ne,hd,h.cfg.touch ht (fun k hk=>hk),h.ne⟩
theorem IsStore.f {w:World} {bs bd bl:Nat} {x:StA} {c:StC} {D:Dsk} (h:IsStore w bs bd bl x c D) :
   w.cell? ⟨bs,0,none⟩=some (.slice x.ra x.rn x.rc)∧w.cell? ⟨bs,1,none⟩=some (.slice x.sa x.sn x.sc)∧w.cell? ⟨bs,5,none⟩=some (.pointer (some ⟨bd,0,none⟩)):=by
 refine ⟨?_,?_,?_⟩ <;> rw [cell_of_block h.cells] <;> rfl
theorem IsStore.rn {w:World} {bs bd bl:Nat} {x:StA} {c:StC} {D:Dsk} (h:IsStore w bs bd bl x c D):x.rn=c.r.length∧x.sn=c.s.length:=⟨h.cfg.r.1.1,h.cfg.s.1⟩
set_option maxHeartbeats 400000 in
theorem there_any (bs bd bl:Nat) (x:StA) (c:StC) (D:Dsk) (w:World) (h:IsStore w bs bd bl x c D) :
   Calls Tryz.prog 68 #[.pointer (some ⟨bs,0,none⟩)] w fun e w' => e=.returned (.bool true)∧w=w':=by
 obtain ⟨_,_,f5⟩:=h.f
 clear h
 go_enter Tryz.func68,Tryz.ntmps68
 go_wp2
 go_ret
 exact ⟨rfl,rfl⟩
set_option maxHeartbeats 1000000 in
theorem keeps_any (bs bd bl:Nat) (x:StA) (c:StC) (D:Dsk) (p:Nat) (pI:Int) (a:Option Addr) (n cc:Nat) (b:List UInt8) (k:Int) (w:World) (h:IsStore w bs bd bl x c D) (hp:pI=(p:Int)) (hb:IsB w a n cc b) (hab:∀ x off,a=some ⟨x,off,none⟩→b≠[]→¬ (x=bd∨x=bl)) (hk:D.fine k) (hk2:k≤1000000000000000) (hlt:(D.get (p:Int)).1<4294967296) :
   Calls Tryz.prog 70 #[.pointer (some ⟨bs,0,none⟩),.int .i64 pI,.slice a n cc] w fun e w' => e=.returned (.int .i64 (D.put (p:Int) (succ32 (D.get (p:Int)).1) b).1)∧Touch (fun k=>k=bd∨k=bl) w w'∧IsDisk w' bd bl (D.put (p:Int) (succ32 (D.get (p:Int)).1) b).2:=by
 subst hp
 obtain ⟨_,_,f5⟩:=h.f
 have hd:=h.disk
 have hs:=Lib.hid h
 have HAB:=Lib.hid hab
 clear h hab
 go_enter Tryz.func70,Tryz.ntmps70
 go_wp2_with fail
 refine (get_any bd bl D (p:Int) w hd).mono ?_;rintro e w1 ⟨a1,rfl,hb1,hi1⟩
 have f5':=(hs.out.below hb1).f.2.2
 have hd1:=hd.touch (Touch.of_below (S:=fun _=>False) hb1) id id
 have hbb:=hb.below hb1
 have HB1:=Lib.hid hb1
 have hsu:IntKind.u32.wrap (((D.get (p:Int)).1:Int)+1)=((succ32 (D.get (p:Int)).1:Nat):Int):=by rw [IntKind.wrap_u32];unfold succ32;omega
 have hsl:succ32 (D.get (p:Int)).1<4294967296:=Nat.mod_lt _ (by decide)
 have hsu2:Hid ((((D.get (p:Int)).1:Int)+1) % 4294967296=((succ32 (D.get (p:Int)).1:Nat):Int)):=Lib.hid (by unfold succ32;omega)
 have HPUT:=Lib.hid (fun (w:World) (h:IsDisk w bd bl D) (h2:IsB w a n cc b)=>put_any bd bl D (p:Int) (succ32 (D.get (p:Int)).1) a n cc b k w h h2 HAB.out hk hk2 hsl)
 have hbb:=Lib.hid hbb
 have hd1:=Lib.hid hd1
 have hsu:=Lib.hid hsu
 clear hb1 hb hd f5 hi1 hk hk2 hlt hsl
 generalize hR:D.put (p:Int) (succ32 (D.get (p:Int)).1) b=R at HPUT
 generalize (D.get (p:Int)).2.1=b1
 generalize (D.get (p:Int)).2.2=e1
 generalize hM:succ32 (D.get (p:Int)).1=m at hsu hsu2 HPUT
 have HR:=Lib.hid hR
 have HM:=Lib.hid hM
 clear hR hM
 generalize (D.get (p:Int)).1=q at hsu hsu2 ⊢
 go_wp2_with fail
 first
   | rw [hsu.out]
   | rw [hsu2.out]
 refine (HPUT.out w1 hd1.out hbb.out).mono ?_;rintro e w2 ⟨rfl,ht2,hd2⟩
 have T2:=Lib.hid ((Touch.of_below HB1.out).trans ht2)
 have D2:=Lib.hid hd2
 clear ht2 hd2
 go_wp2_with fail
 go_ret
 rw [HR.out]
 exact ⟨rfl,T2.out,D2.out⟩
/- The package stores: fits;conditions: those typed. -/
open Go.RowKit
set_option linter.unusedVariables false
set_option linter.unusedSimpArgs false
theorem okB_eq (l:List Int) (items:Nat):okB l (items:Int)=decide (okV l items):=by
 rw [Bool.eq_iff_iff,decide_eq_true_eq]
 unfold okB okV
 simp only [Bool.and_eq_true,decide_eq_true_eq,inB_iff]
 constructor
 · rintro ⟨⟨⟨h1,h2⟩,h3⟩,h4⟩;exact ⟨by omega,by omega,by omega,h4⟩
 · rintro ⟨h1,h2,h3,h4⟩;exact ⟨⟨⟨by omega,by omega⟩,by omega⟩,h4⟩
set_option maxHeartbeats 2000000 in
theorem fits_any (bs bd bl:Nat) (x:StA) (c:StC) (D:Dsk) (sq:Nat) (st:Bool) (a:Option Addr) (n cap:Nat) (l:List Int) (w:World) (h:IsStore w bs bd bl x c D) (hI:IsI w a n cap l) (hr:c.r.length≤1000000) :
   Calls Tryz.prog 83 #[.pointer (some ⟨bs,0,none⟩),.agg #[.int .u32 sq,.bool st,.slice a n cap]] w fun e w' => e=.returned (.bool (fitsC c.r.length ⟨sq,st,l⟩))∧Below w.heap.size w w':=by
 obtain rfl:=hI.1
 have hb0:Below w.heap.size w (w.alloc (.cells #[.int .u32 sq,.bool st,.slice a l.length cap] 60)):=(Below.refl _ _).alloc (Nat.le_refl _) _
 have hv:=heap_new w (.cells #[.int .u32 sq,.bool st,.slice a l.length cap] 60 (0,0))
 have hst:=h.below hb0
 have hI0:=hI.below hb0
 clear h hI
 cases st with
 | true =>
   have HF:Hid (fitsC c.r.length ⟨sq,true,l⟩=okB l (c.r.length:Int)):=Lib.hid (by rw [okB_eq];rfl)
   go_enter Tryz.func83,Tryz.ntmps83
   go_wp2_with fail
   generalize w.alloc (.cells #[.int .u32 sq,.bool true,.slice a l.length cap] 60)=w0 at hb0 hv hst hI0 ⊢
   have f0:=hst.f.1
   rw [hst.rn.1] at f0
   have q2:w0.cell? ⟨w.heap.size,2,none⟩=some (.slice a l.length cap):=by rw [cell_of_block hv];rfl
   have hd0:=(Below.refl w0.heap.size w0).drew
   go_region_held3 (fun w' => w'.cell? ⟨w.heap.size,2,none⟩=some (.slice a l.length cap)∧w'.cell? ⟨bs,0,none⟩=some (.slice x.ra c.r.length x.rc)) (first
       | with_reducible exact ⟨cell_later hB1 q2,cell_later hB1 f0⟩
       | with_reducible exact ⟨cell_later hd0 q2,cell_later hd0 f0⟩) (first
     | (go_at_call 123;((with_reducible refine (vcheck_any a l.length cap l (c.r.length:Int) w0.drew (hI0.below hd0) ⟨by omega,by omega⟩).mono ?_);rintro e w1 ⟨rfl,hb1⟩;have hB1:Below w0.heap.size w0 w1:=hd0.trans (hb1.mono hd0.size)))
     | fail)
   go_wp2_with fail
   go_ret
   exact ⟨by rw [HF.out];rfl,hb0.trans (hB1.mono hb0.size)⟩
 | false =>
   have HF:Hid (fitsC c.r.length ⟨sq,false,l⟩=((l.length:Int) == 0)):=Lib.hid (by unfold fitsC;cases l <;> simp;omega)
   clear hst hI0
   go_enter Tryz.func83,Tryz.ntmps83
   go_wp2_with fail
   go_ret
   exact ⟨by rw [HF.out];rfl,hb0⟩
end
section
open Go.ChangeShapes Go.WideShapes Go.ChangeAt Go.RowKit Go.Deep
set_option linter.unusedVariables false
set_option maxRecDepth 100000
section
variable {P:Program} {w:World} {t e:TypeId} {cs:List Value}
def IsRows {X:Type} (cx:X→List Value) (m:Nat) (w:World) (a:Option Addr) (n c:Nat) (L:List X):Prop :=
 n=L.length∧n≤c∧c≤maxLen∧(L=[]∨∃ b off,a=some ⟨b,off,none⟩∧b<w.heap.size∧∀ i (hi:i<L.length) j v,(cx L[i])[j]?=some v→w.cell? ⟨b,off+i*m+j,none⟩=some v)
theorem IsRows.below {X:Type} {cx:X→List Value} {m:Nat} {w w':World} {a:Option Addr} {n c:Nat} {L:List X} (h:IsRows cx m w a n c L) (hb:Below w.heap.size w w'):IsRows cx m w' a n c L:=by
 obtain ⟨h1,h2,h3,h4 | ⟨b,off,rfl,hlt,hc⟩⟩:=h
 · exact ⟨h1,h2,h3,.inl h4⟩
 · exact ⟨h1,h2,h3,.inr ⟨b,off,rfl,Nat.lt_of_lt_of_le hlt hb.size,fun i hi j v hj=>(hb.cell (p:=⟨b,off+i*m+j,none⟩) hlt).trans (hc i hi j v hj)⟩⟩
end
structure RcV where
 sq:Nat
 st:Bool
 a:Option Addr
 n:Nat
 c:Nat
 l:List Int
instance : Inhabited RcV := ⟨⟨0, false, none, 0, 0, []⟩⟩
def RcV.cells (x:RcV):List Value:=[.int .u32 x.sq,.bool x.st,.slice x.a x.n x.c]
def RcV.r (x:RcV):StR:=⟨x.sq,x.st,x.l⟩
structure RcOk (w:World) (x:RcV):Prop where
 sq:x.sq<4294967296
 i:IsI w x.a x.n x.c x.l
 len:x.l.length≤140737488351232
structure AcV where
 k:Nat
 who:Int
 r:RcV
 p:Nat
 oa:Option Addr
 on:Nat
 oc:Nat
 o:List Int
 n:Int
 at_:Int
 ba:Option Addr
 bn:Nat
 bc:Nat
 b:List UInt8
instance : Inhabited AcV := ⟨⟨0, 0, default, 0, none, 0, 0, [], 0, 0, none, 0, 0, []⟩⟩
def AcV.cells (x:AcV):List Value:=[.int .u8 x.k,.int .i64 x.who,.int .u32 x.r.sq,.bool x.r.st,.slice x.r.a x.r.n x.r.c,.int .u8 x.p,.slice x.oa x.on x.oc,.int .i64 x.n,.int .i64 x.at_,.slice x.ba x.bn x.bc]
structure AcOk (w:World) (x:AcV):Prop where
 k:x.k<256
 who:-9223372036854775808≤x.who∧x.who≤9223372036854775807
 r:RcOk w x.r
 p:x.p<256
 o:IsI w x.oa x.on x.oc x.o∧x.o.length≤17592186044416
 n:-9223372036854775808≤x.n∧x.n≤9223372036854775807
 at_:-9223372036854775808≤x.at_∧x.at_≤9223372036854775807
 b:IsB w x.ba x.bn x.bc x.b∧x.b.length≤140737488351232
end
end Go.Proofs.YtgbikngicidbkaaGreatDoor
