/- The package stores: get,twin;conditions: those typed. -/
import Derived.Test.YtgbikngicidbkaaGreatDoorQGStPut
import Derived.Test.YtgbikngicidbkaaGreatDoorQGStRec
import Derived.Test.YtgbikngicidbkaaGreatDoorQGStCGStCloStArg2
import Derived.Test.YtgbikngicidbkaaGreatDoorQGHeapBFz
namespace Go.Proofs.YtgbikngicidbkaaGreatDoor
open Go.RowKit
set_option linter.unusedVariables false
set_option linter.unusedSimpArgs false
def dk6 (r:List Int) (s:List (List UInt8)) (a u:List UInt8) (t:Nat) (b:List UInt8):Option StC:=if b=[] then some ⟨r,s,a,u,t⟩ else none
def dk5 (r:List Int) (s:List (List UInt8)) (a u:List UInt8) (b:List UInt8):Option StC:=match decN 8 b with
 | none=>none
 | some (t,b6)=>dk6 r s a u t b6
def dk4 (r:List Int) (s:List (List UInt8)) (a:List UInt8) (b:List UInt8):Option StC:=match decB b with
 | none=>none
 | some (u,b5)=>dk5 r s a u b5
def dk3 (r:List Int) (s:List (List UInt8)) (b:List UInt8):Option StC:=match decB b with
 | none=>none
 | some (a,b4)=>dk4 r s a b4
def dk2 (r:List Int) (n:Nat) (b:List UInt8):Option StC:=match decBs n b with
 | none=>none
 | some (s,b3)=>dk3 r s b3
def dk1 (r:List Int) (b:List UInt8):Option StC:=match decN 1 b with
 | none=>none
 | some (n,b2)=>dk2 r n b2
theorem decC_k (b:List UInt8):decC b=match decL b with
   | none=>none
   | some (r,b1)=>dk1 r b1:=rfl
def OwI (B:Nat) (w:World) (v:Value) (l:List Int):Prop:=∃ g,v=.slice (some ⟨g,0,none⟩) l.length l.length∧w.ownsRow B 3 1 v l.length (icells l)
def OwB (B:Nat) (w:World) (v:Value) (l:List UInt8):Prop:=∃ a,v=.slice a l.length l.length∧NwB B w a l
theorem OwI.touch {B:Nat} {S:Nat→Prop} {w w':World} {v:Value} {l:List Int} (h:OwI B w v l) (ht:Touch S w w') (hs:∀ k,B≤k→¬ S k):OwI B w' v l:=by
 obtain ⟨g,h1,h2⟩:=h;exact ⟨g,h1,owns_touch h2 ht (fun k hk=>hs k (owns_base h2 k hk))⟩
theorem OwB.touch {B:Nat} {S:Nat→Prop} {w w':World} {v:Value} {l:List UInt8} (h:OwB B w v l) (ht:Touch S w w') (hs:∀ k,B≤k→¬ S k):OwB B w' v l:=by
 obtain ⟨a,h1,h2⟩:=h;exact ⟨a,h1,h2.touch ht hs⟩
def BLt (v:Value) (m:Nat):Prop:=∀ k,v.ownBlock=some k→k<m
theorem OwB.blt {B:Nat} {w:World} {v:Value} {l:List UInt8} (h:OwB B w v l):BLt v w.heap.size:=by
 obtain ⟨a,rfl,c,h2⟩:=h
 intro k hk
 have hk':(Value.slice a l.length c).ownBlock=some k:=by cases a <;> exact hk
 obtain ⟨cur,hc⟩:=owns_block h2 hk'
 exact lt_of_heap hc
theorem OwB.low {B B':Nat} {w:World} {v:Value} {l:List UInt8} (h:OwB B w v l) (hb:B'≤B):OwB B' w v l:=by
 obtain ⟨a,h1,h2⟩:=h;exact ⟨a,h1,h2.low hb⟩
theorem OwI.low {B B':Nat} {w:World} {v:Value} {l:List Int} (h:OwI B w v l) (hb:B'≤B):OwI B' w v l:=by
 obtain ⟨a,h1,h2⟩:=h;exact ⟨a,h1,owns_low h2 hb⟩
def S4 (B:Nat) (W:World) (v1 v2:Value) (s:List (List UInt8)) (a:List UInt8):Prop:=∃ m,SecB B m W v1 s∧B≤m∧m≤W.heap.size∧OwB m W v2 a
def S5 (B:Nat) (W:World) (v1 v2 v3:Value) (s:List (List UInt8)) (a u:List UInt8):Prop:=∃ m m2,SecB B m W v1 s∧B≤m∧m≤m2∧OwB m W v2 a∧BLt v2 m2∧OwB m2 W v3 u
theorem S4.touch {B:Nat} {S:Nat→Prop} {W W':World} {v1 v2:Value} {s:List (List UInt8)} {a:List UInt8} (h:S4 B W v1 v2 s a) (ht:Touch S W W') (hs:∀ k,B≤k→¬ S k):S4 B W' v1 v2 s a:=by
 obtain ⟨m,h1,h2,h3,h4⟩:=h
 exact ⟨m,h1.touch ht hs,h2,Nat.le_trans h3 ht.size,h4.touch ht (fun k hk=>hs k (Nat.le_trans h2 hk))⟩
theorem S5.touch {B:Nat} {S:Nat→Prop} {W W':World} {v1 v2 v3:Value} {s:List (List UInt8)} {a u:List UInt8} (h:S5 B W v1 v2 v3 s a u) (ht:Touch S W W') (hs:∀ k,B≤k→¬ S k):S5 B W' v1 v2 v3 s a u:=by
 obtain ⟨m,m2,h1,h2,h3,h4,h5,h6⟩:=h
 exact ⟨m,m2,h1.touch ht hs,h2,h3,h4.touch ht (fun k hk=>hs k (Nat.le_trans h2 hk)),h5,h6.touch ht (fun k hk=>hs k (Nat.le_trans (Nat.le_trans h2 h3) hk))⟩
def GtS (B:Nat) (b0 b:List UInt8) (v0 v1 v2 v3:Value) (t many:Nat) (W:World) (i:Nat):Prop :=
 (i=0→b=b0)∧(i=1→∃ r,decC b0=dk1 r b∧OwI B W v0 r)∧(i=2→∃ r,decC b0=dk2 r many b∧OwI B W v0 r)∧(i=3→∃ r s,decC b0=dk3 r s b∧OwI B W v0 r∧SecV B W v1 s) ∧
 (i=4→∃ r s a,decC b0=dk4 r s a b∧OwI B W v0 r∧S4 B W v1 v2 s a)∧(i=5→∃ r s a u,decC b0=dk5 r s a u b∧OwI B W v0 r∧S5 B W v1 v2 v3 s a u) ∧
 (i=6→∃ r s a u,decC b0=dk6 r s a u t b∧OwI B W v0 r∧S5 B W v1 v2 v3 s a u)
def GtJ (P:Nat→Prop) (b0:List UInt8) (n0:Nat) (wA:World) (i:Nat) (b:List UInt8) (bad:Bool) (W:World):Prop :=
 Touch (fun k=>k=n0∨k=n0+1∨k=n0+1+1+1) wA W∧IsRd P W (n0+1) b bad∧∃ (v0 v1 v2 v3:Value) (t many:Nat),W.heap[n0]?=some (.cells #[v0,v1,v2,v3,.int .u64 t] 27 (0,0))∧W.heap[n0+1+1+1]?=some (.cells #[.int .i64 many] 3 (0,0))∧t<18446744073709551616∧many<256 ∧
   ((∃ a n c,v0=.slice a n c)∧(∃ a n c,v1=.slice a n c)∧(∃ a n c,v2=.slice a n c)∧(∃ a n c,v3=.slice a n c))∧(i≤2→v1=.slice none 0 0) ∧
   (bad=true→decC b0=none)∧(bad=false→GtS wA.heap.size b0 b v0 v1 v2 v3 t many W i)
theorem GtS.mk0 {B:Nat} {b0 b:List UInt8} {v0 v1 v2 v3:Value} {t many:Nat} {W:World} (h:b=b0):GtS B b0 b v0 v1 v2 v3 t many W 0:=⟨(fun _=>h),(fun e=>by omega),(fun e=>by omega),(fun e=>by omega),(fun e=>by omega),(fun e=>by omega),(fun e=>by omega)⟩
theorem GtS.mk1 {B:Nat} {b0 b:List UInt8} {v0 v1 v2 v3:Value} {t many:Nat} {W:World} (h:∃ r,decC b0=dk1 r b∧OwI B W v0 r):GtS B b0 b v0 v1 v2 v3 t many W 1:=⟨(fun e=>by omega),(fun _=>h),(fun e=>by omega),(fun e=>by omega),(fun e=>by omega),(fun e=>by omega),(fun e=>by omega)⟩
theorem GtS.mk2 {B:Nat} {b0 b:List UInt8} {v0 v1 v2 v3:Value} {t many:Nat} {W:World} (h:∃ r,decC b0=dk2 r many b∧OwI B W v0 r):GtS B b0 b v0 v1 v2 v3 t many W 2:=⟨(fun e=>by omega),(fun e=>by omega),(fun _=>h),(fun e=>by omega),(fun e=>by omega),(fun e=>by omega),(fun e=>by omega)⟩
theorem GtS.mk3 {B:Nat} {b0 b:List UInt8} {v0 v1 v2 v3:Value} {t many:Nat} {W:World} (h:∃ r s,decC b0=dk3 r s b∧OwI B W v0 r∧SecV B W v1 s):GtS B b0 b v0 v1 v2 v3 t many W 3:=⟨(fun e=>by omega),(fun e=>by omega),(fun e=>by omega),(fun _=>h),(fun e=>by omega),(fun e=>by omega),(fun e=>by omega)⟩
theorem GtS.mk4 {B:Nat} {b0 b:List UInt8} {v0 v1 v2 v3:Value} {t many:Nat} {W:World} (h:∃ r s a,decC b0=dk4 r s a b∧OwI B W v0 r∧S4 B W v1 v2 s a):GtS B b0 b v0 v1 v2 v3 t many W 4:=⟨(fun e=>by omega),(fun e=>by omega),(fun e=>by omega),(fun e=>by omega),(fun _=>h),(fun e=>by omega),(fun e=>by omega)⟩
theorem GtS.mk5 {B:Nat} {b0 b:List UInt8} {v0 v1 v2 v3:Value} {t many:Nat} {W:World} (h:∃ r s a u,decC b0=dk5 r s a u b∧OwI B W v0 r∧S5 B W v1 v2 v3 s a u):GtS B b0 b v0 v1 v2 v3 t many W 5:=⟨(fun e=>by omega),(fun e=>by omega),(fun e=>by omega),(fun e=>by omega),(fun e=>by omega),(fun _=>h),(fun e=>by omega)⟩
theorem GtS.mk6 {B:Nat} {b0 b:List UInt8} {v0 v1 v2 v3:Value} {t many:Nat} {W:World} (h:∃ r s a u,decC b0=dk6 r s a u t b∧OwI B W v0 r∧S5 B W v1 v2 v3 s a u):GtS B b0 b v0 v1 v2 v3 t many W 6:=⟨(fun e=>by omega),(fun e=>by omega),(fun e=>by omega),(fun e=>by omega),(fun e=>by omega),(fun e=>by omega),(fun _=>h)⟩
theorem set5_same {w:World} {b:Nat} {v0 v1 v2 v3 v4:Value} {T:TypeId} (h:w.heap[b]?=some (.cells #[v0,v1,v2,v3,v4] T (0,0))) :
   (((((w.setCell ⟨b,0,none⟩ v0).setCell ⟨b,1,none⟩ v1).setCell ⟨b,2,none⟩ v2).setCell ⟨b,3,none⟩ v3).setCell ⟨b,4,none⟩ v4).heap[b]?=some (.cells #[v0,v1,v2,v3,v4] T (0,0))∧Touch (fun k=>k=b) w (((((w.setCell ⟨b,0,none⟩ v0).setCell ⟨b,1,none⟩ v1).setCell ⟨b,2,none⟩ v2).setCell ⟨b,3,none⟩ v3).setCell ⟨b,4,none⟩ v4):=by
 have h0:(w.setCell ⟨b,0,none⟩ v0).heap[b]?=some (.cells #[v0,v1,v2,v3,v4] T (0,0)):=by rw [heap_setCell_same _ b 0 _ _ _ h];rfl
 have h1:((w.setCell ⟨b,0,none⟩ v0).setCell ⟨b,1,none⟩ v1).heap[b]?=some (.cells #[v0,v1,v2,v3,v4] T (0,0)):=by rw [heap_setCell_same _ b 1 _ _ _ h0];rfl
 have h2:(((w.setCell ⟨b,0,none⟩ v0).setCell ⟨b,1,none⟩ v1).setCell ⟨b,2,none⟩ v2).heap[b]?=some (.cells #[v0,v1,v2,v3,v4] T (0,0)):=by rw [heap_setCell_same _ b 2 _ _ _ h1];rfl
 have h3:((((w.setCell ⟨b,0,none⟩ v0).setCell ⟨b,1,none⟩ v1).setCell ⟨b,2,none⟩ v2).setCell ⟨b,3,none⟩ v3).heap[b]?=some (.cells #[v0,v1,v2,v3,v4] T (0,0)):=by rw [heap_setCell_same _ b 3 _ _ _ h2];rfl
 exact ⟨by rw [heap_setCell_same _ b 4 _ _ _ h3];rfl,((((Touch.setCell (Touch.refl (fun k=>k=b) w) ⟨b,0,none⟩ v0 (.inl rfl)).setCell ⟨b,1,none⟩ v1 (.inl rfl)).setCell ⟨b,2,none⟩ v2 (.inl rfl)).setCell ⟨b,3,none⟩ v3 (.inl rfl)).setCell ⟨b,4,none⟩ v4 (.inl rfl)⟩
theorem alloc5_facts (w:World) (o1 o2 o3 o4 o5:Obj):Below w.heap.size w (((((w.alloc o1).alloc o2).alloc o3).alloc o4).alloc o5)∧(((((w.alloc o1).alloc o2).alloc o3).alloc o4).alloc o5).heap[w.heap.size]?=some o1∧(((((w.alloc o1).alloc o2).alloc o3).alloc o4).alloc o5).heap[w.heap.size+1]?=some o2∧(((((w.alloc o1).alloc o2).alloc o3).alloc o4).alloc o5).heap[w.heap.size+1+1]?=some o3∧(((((w.alloc o1).alloc o2).alloc o3).alloc o4).alloc o5).heap[w.heap.size+1+1+1]?=some o4∧(((((w.alloc o1).alloc o2).alloc o3).alloc o4).alloc o5).heap[w.heap.size+1+1+1+1]?=some o5:=by
 obtain ⟨h1,h2,h3,h4,h5⟩:=alloc4_facts w o1 o2 o3 o4
 have hb:Below (w.heap.size+4) ((((w.alloc o1).alloc o2).alloc o3).alloc o4) (((((w.alloc o1).alloc o2).alloc o3).alloc o4).alloc o5):=(Below.refl _ _).alloc (by simp) _
 refine ⟨h1.alloc (by simp;omega) _,below_heap hb h2 (by omega),below_heap hb h3 (by omega),below_heap hb h4 (by omega),below_heap hb h5 (by omega),?_⟩
 have:=heap_new ((((w.alloc o1).alloc o2).alloc o3).alloc o4) o5
 rwa [World.size_alloc,World.size_alloc,World.size_alloc,World.size_alloc] at this
theorem info_cfg:(Tryz.prog.info? 27).map (·.size)=some 5:=by kernel_rfl
theorem cfg_one (ra sa aa ua:Option Addr) (rn rc sn sc an ac un uc:Nat) (t:Int):∀ v ∈ [Value.slice ra rn rc,.slice sa sn sc,.slice aa an ac,.slice ua un uc,.int .u64 t],v.oneCell'=true:=by intro v hv;simp at hv;rcases hv with rfl | rfl | rfl | rfl | rfl <;> rfl
theorem may_flat (P:Nat→Prop) (x:StA) (c:StC) (t:Nat) (w:World) (h:IsCf w P x c) (ht:c.t=t) :
   Calls Tryz.prog 51 #[.agg #[.slice x.ra x.rn x.rc,.slice x.sa x.sn x.sc,.slice x.aa x.an x.ac,.slice x.ua x.un x.uc,.int .u64 (t:Int)]] w fun e w' => e=.returned (.bool (mayB c))∧Below w.heap.size w w':=by
 subst ht;exact may_any P x c w h
def okC (b:List UInt8):Bool:=match decC b with | none=>false | some cc=>mayB cc
theorem okC_some {b:List UInt8} {c:StC} (h:decC b=some c):okC b=mayB c:=by unfold okC;rw [h]
theorem okC_none {b:List UInt8} (h:decC b=none):okC b=false:=by unfold okC;rw [h]
def GotC (B:Nat) (w:World) (b:List UInt8) (y:StA) (t:Nat):Prop:=∀ cc,decC b=some cc→t=cc.t∧IsCf w (fun k=>B≤k) y cc
theorem GotC.no {B:Nat} {w:World} {b:List UInt8} {y:StA} {t:Nat} (h:decC b=none):GotC B w b y t:=by
 intro cc hcc;rw [h] at hcc;cases hcc
theorem GotC.yes {B:Nat} {w:World} {b:List UInt8} {y:StA} {c:StC} (h:decC b=some c) (hw:IsCf w (fun k=>B≤k) y c):GotC B w b y c.t:=by
 intro cc hcc;rw [h] at hcc;cases hcc;exact ⟨rfl,hw⟩
def CfO (B:Nat) (w:World) (y:StA) (c:StC):Prop:=OwI B w (.slice y.ra y.rn y.rc) c.r∧S5 B w (.slice y.sa y.sn y.sc) (.slice y.aa y.an y.ac) (.slice y.ua y.un y.uc) c.s c.a c.u
theorem CfO.touch {B:Nat} {S:Nat→Prop} {w w':World} {y:StA} {c:StC} (h:CfO B w y c) (ht:Touch S w w') (hs:∀ k,B≤k→¬ S k):CfO B w' y c:=⟨h.1.touch ht hs,h.2.touch ht hs⟩
theorem CfO.below {B:Nat} {w w':World} {y:StA} {c:StC} (h:CfO B w y c) (hb:Below w.heap.size w w'):CfO B w' y c:=h.touch (Touch.of_below (S:=fun _=>False) hb) (fun _ _=>id)
theorem S5.low {B B':Nat} {W:World} {v1 v2 v3:Value} {s:List (List UInt8)} {a u:List UInt8} (h:S5 B W v1 v2 v3 s a u) (hb:B'≤B):S5 B' W v1 v2 v3 s a u:=by
 obtain ⟨m,m2,h1,h2,h3,h4,h5,h6⟩:=h
 exact ⟨m,m2,h1.low hb (Nat.le_refl _),Nat.le_trans hb h2,h3,h4,h5,h6⟩
theorem CfO.low {B B':Nat} {w:World} {y:StA} {c:StC} (h:CfO B w y c) (hb:B'≤B):CfO B' w y c:=⟨h.1.low hb,h.2.low hb⟩
def GotO (B:Nat) (w:World) (b:List UInt8) (y:StA):Prop:=∀ cc,decC b=some cc→CfO B w y cc
theorem GotO.no {B:Nat} {w:World} {b:List UInt8} {y:StA} (h:decC b=none):GotO B w b y:=by
 intro cc hcc;rw [h] at hcc;cases hcc
theorem GotO.yes {B:Nat} {w:World} {b:List UInt8} {y:StA} {c:StC} (h:decC b=some c) (hw:CfO B w y c):GotO B w b y:=by
 intro cc hcc;rw [h] at hcc;cases hcc;exact hw
theorem SecV.isBBp {B:Nat} {w:World} {a:Option Addr} {n c:Nat} {s:List (List UInt8)} (h:SecV B w (.slice a n c) s):∃ vs,IsBBp w (fun k=>B≤k) a n c vs s:=by
 obtain ⟨a',c',vs,e,ho,hn⟩:=h
 cases e
 refine ⟨vs,rfl,?_,?_,hn.bbv,?_⟩
 · rcases ho.2 with ⟨h,h0⟩ | ⟨g,cap,cur,h,_,_,hnc,hcm,_⟩
   · obtain ⟨_,h1,h2⟩:=Value.slice.inj h;omega
   · cases h;exact hnc
 · rcases ho.2 with ⟨h,h0⟩ | ⟨g,cap,cur,h,_,_,hnc,hcm,_⟩
   · obtain ⟨_,h1,h2⟩:=Value.slice.inj h;rw [h2];decide
   · cases h;exact hcm
 · rcases ho.2 with ⟨h,h0⟩ | ⟨g,cap,cur,h,hb,hg,_⟩
   · exact .inl (List.eq_nil_of_length_eq_zero h0)
   · cases h
     refine .inr ⟨g,0,rfl,hb,lt_of_heap hg,fun i hi => ?_⟩
     rw [Nat.zero_add]
     exact cells_of_owns ho i _ (List.getElem?_eq_getElem hi)
set_option maxRecDepth 100000 in
set_option maxHeartbeats 16000000 in
theorem get_cfg (a:Option Addr) (n c:Nat) (b:List UInt8) (w:World) (hb:IsB w a n c b) :
   Calls Tryz.prog 75 #[.slice a n c] w fun e w' => ∃ (y:StA) (t:Nat),e=.returned (.tuple #[.agg (y.cells t).toArray,.bool (okC b)])∧Below w.heap.size w w'∧GotC w.heap.size w' b y t∧GotO w.heap.size w' b y:=by
 obtain ⟨hwa,r0,r1,r2,r3,r4⟩:=alloc5_facts w (.cells #[.slice none 0 0,.slice none 0 0,.slice none 0 0,.slice none 0 0,.int .u64 0] 27 (0,0)) (.cells #[.slice a n c,.bool false] 161 (0,0)) (.cells #[.pointer (some ⟨w.heap.size+1,0,none⟩)] 159 (0,0)) (.cells #[.int .i64 0] 3 (0,0))
   (.cells #[.func (.func 148) #[] #[.pointer (some ⟨w.heap.size+1+1,0,none⟩),.pointer (some ⟨w.heap.size,0,none⟩)],.func (.func 150) #[] #[.pointer (some ⟨w.heap.size+1+1,0,none⟩),.pointer (some ⟨w.heap.size+1+1+1,0,none⟩)],.func (.func 152) #[] #[.pointer (some ⟨w.heap.size+1+1+1,0,none⟩),.pointer (some ⟨w.heap.size+1+1,0,none⟩),.pointer (some ⟨w.heap.size,0,none⟩)],.func (.func 154) #[] #[.pointer (some ⟨w.heap.size+1+1,0,none⟩),.pointer (some ⟨w.heap.size,0,none⟩)],.func (.func 155) #[] #[.pointer (some ⟨w.heap.size+1+1,0,none⟩),.pointer (some ⟨w.heap.size,0,none⟩)],.func (.func 156) #[] #[.pointer (some ⟨w.heap.size+1+1,0,none⟩),.pointer (some ⟨w.heap.size,0,none⟩)]] 1 (0,0))
 have HLT:=Lib.hid hb.ltSize
 have hbA:=hb.below hwa
 clear hb
 go_enter Tryz.func75,Tryz.ntmps75
 go_wp2_with fail
 generalize hWA:((((w.alloc (.cells #[.slice none 0 0,.slice none 0 0,.slice none 0 0,.slice none 0 0,.int .u64 0] 27)).alloc (.cells #[.slice a n c,.bool false] 161)).alloc (.cells #[.pointer (some ⟨w.heap.size+1,0,none⟩)] 159)).alloc (.cells #[.int .i64 0] 3)).alloc (.cells #[.func (.func 148) #[] #[.pointer (some ⟨w.heap.size+1+1,0,none⟩),.pointer (some ⟨w.heap.size,0,none⟩)],.func (.func 150) #[] #[.pointer (some ⟨w.heap.size+1+1,0,none⟩),.pointer (some ⟨w.heap.size+1+1+1,0,none⟩)],.func (.func 152) #[] #[.pointer (some ⟨w.heap.size+1+1+1,0,none⟩),.pointer (some ⟨w.heap.size+1+1,0,none⟩),.pointer (some ⟨w.heap.size,0,none⟩)],.func (.func 154) #[] #[.pointer (some ⟨w.heap.size+1+1,0,none⟩),.pointer (some ⟨w.heap.size,0,none⟩)],.func (.func 155) #[] #[.pointer (some ⟨w.heap.size+1+1,0,none⟩),.pointer (some ⟨w.heap.size,0,none⟩)],.func (.func 156) #[] #[.pointer (some ⟨w.heap.size+1+1,0,none⟩),.pointer (some ⟨w.heap.size,0,none⟩)]] 1)=wA at hwa r0 r1 r2 r3 r4 hbA ⊢
 clear hWA
 have hsz:w.heap.size+1+1+1+1<wA.heap.size:=lt_of_heap r4
 have HBA:=Lib.hid hwa
 refine (runs_any (P:=fun k=>k<w.heap.size) (w.heap.size+1) (some ⟨w.heap.size+1+1+1+1,0,none⟩) 6 [(148,#[.pointer (some ⟨w.heap.size+1+1,0,none⟩),.pointer (some ⟨w.heap.size,0,none⟩)]),(150,#[.pointer (some ⟨w.heap.size+1+1,0,none⟩),.pointer (some ⟨w.heap.size+1+1+1,0,none⟩)]),(152,#[.pointer (some ⟨w.heap.size+1+1+1,0,none⟩),.pointer (some ⟨w.heap.size+1+1,0,none⟩),.pointer (some ⟨w.heap.size,0,none⟩)]),(154,#[.pointer (some ⟨w.heap.size+1+1,0,none⟩),.pointer (some ⟨w.heap.size,0,none⟩)]),(155,#[.pointer (some ⟨w.heap.size+1+1,0,none⟩),.pointer (some ⟨w.heap.size,0,none⟩)]),(156,#[.pointer (some ⟨w.heap.size+1+1,0,none⟩),.pointer (some ⟨w.heap.size,0,none⟩)])] (GtJ (fun k=>k<w.heap.size) b w.heap.size wA) b wA ?hJ (by simp) (by simp) ?hstep ?hcall ?hskip ?h0).mono ?_
 case hJ =>
   rintro i b' bad W ⟨ht,hr,_⟩
   refine ⟨hr,_,_,rfl,fun j hj => ?_⟩
   have hW:=ht.heap r4 (by omega)
   rw [Nat.zero_add,cell_of_block hW]
   match j,hj with
   | 0,_=>rfl
   | 1,_=>rfl
   | 2,_=>rfl
   | 3,_=>rfl
   | 4,_=>rfl
   | 5,_=>rfl
 case hstep =>
   rintro i hi b' W ⟨ht,hr,v0,v1,v2,v3,t,many,q0,q3,htt,hmany,⟨s0,s1,s2,s3⟩,hnil,_,st⟩
   have hW2:=ht.heap r2 (by omega)
   have st:=st rfl
   match i,hi with
     | 0,_ =>
       obtain rfl:=st.1 rfl
       refine (clo_get1 (w.heap.size+1+1) (w.heap.size+1) w.heap.size _ _ _ b' W hW2 q0 (by simp;try omega) (by simp) hr (by omega)).mono ?_
       rintro e W' ⟨rfl,v',ht',hh',hr',hv'⟩
       refine ⟨rfl,?_⟩
       have ht2:=ht.trans (ht'.weaken (T:=fun k=>k=w.heap.size∨k=w.heap.size+1∨k=w.heap.size+1+1+1) (fun k _ hk=>by omega))
       have hk2:∀ k,wA.heap.size≤k→¬ (k=w.heap.size+1∨k=w.heap.size):=fun k hk e=>by omega
       have q3':=ht'.heap q3 (by omega)
       cases hd:decL b' with
       | none =>
         rw [hd] at hr' hv'
         obtain rfl:=hv'
         exact ⟨_,true,ht2,hr',_,v1,v2,v3,t,many,hh',q3',htt,hmany,⟨⟨_,_,_,rfl⟩,s1,s2,s3⟩,(fun _=>hnil (by omega)),(fun _=>by rw [decC_k,hd]),fun h=>by cases h⟩
       | some y =>
         obtain ⟨l,r2⟩:=y
         rw [hd] at hr' hv'
         obtain ⟨g,rfl,ho⟩:=hv'
         exact ⟨_,false,ht2,hr',_,v1,v2,v3,t,many,hh',q3',htt,hmany,⟨⟨_,_,_,rfl⟩,s1,s2,s3⟩,(fun _=>hnil (by omega)),(fun h=>by cases h),fun _=>GtS.mk1 ⟨l,by rw [decC_k,hd],g,rfl,owns_low ho ht.size⟩⟩
     | 1,_ =>
       obtain ⟨r,hk,h0⟩:=st.2.1 rfl
       refine (clo_get2 (w.heap.size+1+1) (w.heap.size+1) (w.heap.size+1+1+1) _ _ _ b' W hW2 q3 (by simp;try omega) (by simp) hr (by omega)).mono ?_
       rintro e W' ⟨rfl,v',ht',hh',hr',rfl⟩
       refine ⟨rfl,?_⟩
       have ht2:=ht.trans (ht'.weaken (T:=fun k=>k=w.heap.size∨k=w.heap.size+1∨k=w.heap.size+1+1+1) (fun k _ hk=>by omega))
       have hk2:∀ k,wA.heap.size≤k→¬ (k=w.heap.size+1∨k=w.heap.size+1+1+1):=fun k hk e=>by omega
       have q0':=ht'.heap q0 (by omega)
       have h0':=h0.touch ht' hk2
       cases hd:decN 1 b' with
       | none =>
         rw [hd] at hr' hh'
         exact ⟨_,true,ht2,hr',v0,v1,v2,v3,t,0,q0',hh',htt,by decide,⟨s0,s1,s2,s3⟩,(fun _=>hnil (by omega)),(fun _=>by rw [hk,dk1,hd]),fun h=>by cases h⟩
       | some y =>
         obtain ⟨q,r2⟩:=y
         have hlt:=decN_lt 1 b'
         rw [hd] at hr' hh' hlt
         exact ⟨_,false,ht2,hr',v0,v1,v2,v3,t,q,q0',hh',htt,hlt,⟨s0,s1,s2,s3⟩,(fun _=>hnil (by omega)),(fun h=>by cases h),fun _=>GtS.mk2 ⟨r,by rw [hk,dk1,hd],h0'⟩⟩
     | 2,_ =>
       obtain ⟨r,hk,h0⟩:=st.2.2.1 rfl
       refine (clo_get3 (w.heap.size+1+1+1) (w.heap.size+1+1) (w.heap.size+1) w.heap.size many v0 v2 v3 _ b' W q3 hW2 (by rw [q0,hnil (by omega)]) (by simp) (fun k hk=>by have:=ht.size;omega) hr (by omega) ⟨by omega,by omega⟩ ⟨by omega,by omega⟩ hmany).mono ?_
       rintro e W' ⟨rfl,bad',ht',r2,v1',hr',hh',hs',hbad',hst'⟩
       refine ⟨rfl,?_⟩
       have ht2:=ht.trans (ht'.weaken (T:=fun k=>k=w.heap.size∨k=w.heap.size+1∨k=w.heap.size+1+1+1) (fun k _ hk=>by omega))
       have hk2:∀ k,wA.heap.size≤k→¬ (k=w.heap.size+1∨k=w.heap.size):=fun k hk e=>by omega
       have q3':=ht'.heap q3 (by omega)
       have h0':=h0.touch ht' hk2
       cases bad' with
       | true=>exact ⟨_,true,ht2,hr',v0,v1',v2,v3,t,many,hh',q3',htt,hmany,⟨s0,hs',s2,s3⟩,(fun h=>by omega),(fun _=>by rw [hk,dk2,hbad' rfl]),fun h=>by cases h⟩
       | false =>
         obtain ⟨s,hd,hsv⟩:=hst' rfl
         exact ⟨_,false,ht2,hr',v0,v1',v2,v3,t,many,hh',q3',htt,hmany,⟨s0,hs',s2,s3⟩,(fun h=>by omega),(fun h=>by cases h),fun _=>GtS.mk3 ⟨r,s,by rw [hk,dk2,hd],h0',hsv.low ht.size⟩⟩
     | 3,_ =>
       obtain ⟨r,s,hk,h0,h1⟩:=st.2.2.2.1 rfl
       refine (clo_get4 (w.heap.size+1+1) (w.heap.size+1) w.heap.size _ _ _ b' W hW2 q0 (by simp;try omega) (by simp) hr (by omega)).mono ?_
       rintro e W' ⟨rfl,v',ht',hh',hr',hv'⟩
       refine ⟨rfl,?_⟩
       have ht2:=ht.trans (ht'.weaken (T:=fun k=>k=w.heap.size∨k=w.heap.size+1∨k=w.heap.size+1+1+1) (fun k _ hk=>by omega))
       have hk2:∀ k,wA.heap.size≤k→¬ (k=w.heap.size+1∨k=w.heap.size):=fun k hk e=>by omega
       have q3':=ht'.heap q3 (by omega)
       have h0':=h0.touch ht' hk2
       have h1':=h1.touch ht' hk2
       cases hd:decB b' with
       | none =>
         rw [hd] at hr' hv'
         obtain rfl:=hv'
         exact ⟨_,true,ht2,hr',v0,v1,_,v3,t,many,hh',q3',htt,hmany,⟨s0,s1,⟨_,_,_,rfl⟩,s3⟩,(fun h=>by omega),(fun _=>by rw [hk,dk3,hd]),fun h=>by cases h⟩
       | some y =>
         obtain ⟨l,r2⟩:=y
         rw [hd] at hr' hv'
         obtain ⟨g,rfl,ho⟩:=hv'
         exact ⟨_,false,ht2,hr',v0,v1,_,v3,t,many,hh',q3',htt,hmany,⟨s0,s1,⟨_,_,_,rfl⟩,s3⟩,(fun h=>by omega),(fun h=>by cases h),fun _=>GtS.mk4 ⟨r,s,l,by rw [hk,dk3,hd],h0',W.heap.size,h1.toB.touch ht' hk2,ht.size,ht'.size,g,rfl,ho⟩⟩
     | 4,_ =>
       obtain ⟨r,s,xa,hk,h0,m,h1,hm1,hm2,h2⟩:=st.2.2.2.2.1 rfl
       refine (clo_get5 (w.heap.size+1+1) (w.heap.size+1) w.heap.size _ _ _ b' W hW2 q0 (by simp;try omega) (by simp) hr (by omega)).mono ?_
       rintro e W' ⟨rfl,v',ht',hh',hr',hv'⟩
       refine ⟨rfl,?_⟩
       have ht2:=ht.trans (ht'.weaken (T:=fun k=>k=w.heap.size∨k=w.heap.size+1∨k=w.heap.size+1+1+1) (fun k _ hk=>by omega))
       have hk2:∀ k,wA.heap.size≤k→¬ (k=w.heap.size+1∨k=w.heap.size):=fun k hk e=>by omega
       have q3':=ht'.heap q3 (by omega)
       have h0':=h0.touch ht' hk2
       have h1':=h1.touch ht' hk2
       have h2':=h2.touch ht' (fun k hk=>hk2 k (Nat.le_trans hm1 hk))
       cases hd:decB b' with
       | none =>
         rw [hd] at hr' hv'
         obtain rfl:=hv'
         exact ⟨_,true,ht2,hr',v0,v1,v2,_,t,many,hh',q3',htt,hmany,⟨s0,s1,s2,⟨_,_,_,rfl⟩⟩,(fun h=>by omega),(fun _=>by rw [hk,dk4,hd]),fun h=>by cases h⟩
       | some y =>
         obtain ⟨l,r2⟩:=y
         rw [hd] at hr' hv'
         obtain ⟨g,rfl,ho⟩:=hv'
         exact ⟨_,false,ht2,hr',v0,v1,v2,_,t,many,hh',q3',htt,hmany,⟨s0,s1,s2,⟨_,_,_,rfl⟩⟩,(fun h=>by omega),(fun h=>by cases h),fun _=>GtS.mk5 ⟨r,s,xa,l,by rw [hk,dk4,hd],h0',m,W.heap.size,h1',hm1,hm2,h2',h2.blt,g,rfl,ho⟩⟩
     | 5,_ =>
       obtain ⟨r,s,xa,xu,hk,h0,h1⟩:=st.2.2.2.2.2.1 rfl
       refine (clo_get6 (w.heap.size+1+1) (w.heap.size+1) w.heap.size _ _ _ b' W hW2 q0 (by simp;try omega) (by simp) hr (by omega)).mono ?_
       rintro e W' ⟨rfl,v',ht',hh',hr',rfl⟩
       refine ⟨rfl,?_⟩
       have ht2:=ht.trans (ht'.weaken (T:=fun k=>k=w.heap.size∨k=w.heap.size+1∨k=w.heap.size+1+1+1) (fun k _ hk=>by omega))
       have hk2:∀ k,wA.heap.size≤k→¬ (k=w.heap.size+1∨k=w.heap.size):=fun k hk e=>by omega
       have q3':=ht'.heap q3 (by omega)
       have h0':=h0.touch ht' hk2
       have h1':=h1.touch ht' hk2
       cases hd:decN 8 b' with
       | none =>
         rw [hd] at hr' hh'
         exact ⟨_,true,ht2,hr',v0,v1,v2,v3,0,many,hh',q3',by decide,hmany,⟨s0,s1,s2,s3⟩,(fun h=>by omega),(fun _=>by rw [hk,dk5,hd]),fun h=>by cases h⟩
       | some y =>
         obtain ⟨q,r2⟩:=y
         have hlt:=decN_lt 8 b'
         rw [hd] at hr' hh' hlt
         exact ⟨_,false,ht2,hr',v0,v1,v2,v3,q,many,hh',q3',hlt,hmany,⟨s0,s1,s2,s3⟩,(fun h=>by omega),(fun h=>by cases h),fun _=>GtS.mk6 ⟨r,s,xa,xu,by rw [hk,dk5,hd],h0',h1'⟩⟩
 case hcall =>
   intro i hi W
   match i,hi with
   | 0,_=>exact (enters_of Tryz.func148 (by kernel_rfl) rfl) _ _
   | 1,_=>exact (enters_of Tryz.func150 (by kernel_rfl) rfl) _ _
   | 2,_=>exact (enters_of Tryz.func152 (by kernel_rfl) rfl) _ _
   | 3,_=>exact (enters_of Tryz.func154 (by kernel_rfl) rfl) _ _
   | 4,_=>exact (enters_of Tryz.func155 (by kernel_rfl) rfl) _ _
   | 5,_=>exact (enters_of Tryz.func156 (by kernel_rfl) rfl) _ _
 case hskip =>
   rintro i b' W ⟨ht,hr,v0,v1,v2,v3,t,many,q0,q3,htt,hmany,hs,hnil,hbad,_⟩
   exact ⟨ht,hr,v0,v1,v2,v3,t,many,q0,q3,htt,hmany,hs,(fun h=>hnil (by omega)),hbad,fun h=>by cases h⟩
 case h0 =>
   exact ⟨Touch.refl _ _,⟨_,_,_,r1,hbA,HLT.out⟩,_,_,_,_,0,0,r0,r3,by decide,by decide,⟨⟨_,_,_,rfl⟩,⟨_,_,_,rfl⟩,⟨_,_,_,rfl⟩,⟨_,_,_,rfl⟩⟩,(fun _=>rfl),(fun h=>by cases h),fun _=>GtS.mk0 rfl⟩
 rintro e W ⟨b',bad,⟨ht,hr,v0,v1,v2,v3,t,many,q0,q3,htt,hmany,⟨⟨ra,rn,rc,rfl⟩,⟨sa,sn,sc,rfl⟩,⟨aa,an,ac,rfl⟩,⟨ua,un,uc,rfl⟩⟩,hnil,hbad,hst⟩,rfl⟩
 have hBW:Below w.heap.size w W:=HBA.out.trans (ht.below HBA.out.size (fun k hk e=>by omega))
 clear hnil hr r0 r1 r2 r3 r4 hbA hwa q3
 have f0:W.cell? ⟨w.heap.size,0,none⟩=some (.slice ra rn rc):=by rw [cell_of_block q0];rfl
 have f1:W.cell? ⟨w.heap.size,1,none⟩=some (.slice sa sn sc):=by rw [cell_of_block q0];rfl
 have f2:W.cell? ⟨w.heap.size,2,none⟩=some (.slice aa an ac):=by rw [cell_of_block q0];rfl
 have f3:W.cell? ⟨w.heap.size,3,none⟩=some (.slice ua un uc):=by rw [cell_of_block q0];rfl
 have f4:W.cell? ⟨w.heap.size,4,none⟩=some (.int .u64 t):=by rw [cell_of_block q0];rfl
 have hd0:=(Below.refl W.heap.size W).drew
 have hn0:w.heap.size<W.heap.size:=lt_of_heap q0
 by_cases hok:bad=false∧b'=[]
 · obtain ⟨rfl,rfl⟩:=hok
   obtain ⟨r,s,xa,xu,hk,o0',h5'⟩:=(hst rfl).2.2.2.2.2.2 rfl
   have hO:=And.intro o0' h5'
   obtain ⟨g0,e0,o0⟩:=o0'
   obtain ⟨m,m2,h1,hm1,hm2,⟨ga,e2,o2⟩,_,⟨gu,e3,o3⟩⟩:=h5'
   have o2:=o2.low hm1
   have o3:=o3.low (Nat.le_trans hm1 hm2)
   have h1:=h1.toV
   cases e0
   cases e2
   cases e3
   obtain ⟨vs,hbb⟩:=h1.isBBp
   have hdec:decC b=some ⟨r,s,xa,xu,t⟩:=by rw [hk];rfl
   have hlo:∀ k,wA.heap.size≤k→w.heap.size≤k:=fun k hk=>by omega
   have hcf:IsCf W (fun k=>wA.heap.size≤k) ⟨some ⟨g0,0,none⟩,r.length,r.length,sa,sn,sc,vs,aa,xa.length,xa.length,ua,xu.length,xu.length⟩ ⟨r,s,xa,xu,t⟩ :=
     ⟨NwI.isIp ⟨r.length,o0⟩,hbb,o2.isBp,o3.isBp,htt⟩
   have HCF:=Lib.hid hcf
   have HOW:Hid (CfO wA.heap.size W ⟨some ⟨g0,0,none⟩,r.length,r.length,sa,sn,sc,vs,aa,xa.length,xa.length,ua,xu.length,xu.length⟩ ⟨r,s,xa,xu,t⟩):=Lib.hid hO
   have HDEC:=Lib.hid hdec
   have HBW:=Lib.hid hBW
   have Q0:=Lib.hid q0
   clear hst hbad hk o0 o2 o3 h1 hbb hdec hcf hBW q0 ht hO hm1 hm2
   go_wp2_with fail
   have k0:W.drew.cell? ⟨w.heap.size,0,none⟩=some (.slice (some ⟨g0,0,none⟩) r.length r.length):=f0
   have k1:W.drew.cell? ⟨w.heap.size,1,none⟩=some (.slice sa sn sc):=f1
   have k2:W.drew.cell? ⟨w.heap.size,2,none⟩=some (.slice aa xa.length xa.length):=f2
   have k3:W.drew.cell? ⟨w.heap.size,3,none⟩=some (.slice ua xu.length xu.length):=f3
   have k4:W.drew.cell? ⟨w.heap.size,4,none⟩=some (.int .u64 t):=f4
   go_region_law (first
     | (go_simp;go_at_call 51;refine (may_flat (fun k=>wA.heap.size≤k) ⟨some ⟨g0,0,none⟩,r.length,r.length,sa,sn,sc,vs,aa,xa.length,xa.length,ua,xu.length,xu.length⟩ ⟨r,s,xa,xu,t⟩ t W.drew (HCF.out.below hd0) rfl).mono ?_;rintro e w1 ⟨rfl,hb1⟩
        have hB1:Below W.heap.size W w1:=hd0.trans (hb1.mono hd0.size)
        have y0:w1.cell? ⟨w.heap.size,0,none⟩=some (.slice (some ⟨g0,0,none⟩) r.length r.length):=cell_later hB1 f0
        have y1:w1.cell? ⟨w.heap.size,1,none⟩=some (.slice sa sn sc):=cell_later hB1 f1
        have y2:w1.cell? ⟨w.heap.size,2,none⟩=some (.slice aa xa.length xa.length):=cell_later hB1 f2
        have y3:w1.cell? ⟨w.heap.size,3,none⟩=some (.slice ua xu.length xu.length):=cell_later hB1 f3
        have y4:w1.cell? ⟨w.heap.size,4,none⟩=some (.int .u64 t):=cell_later hB1 f4
        have yf0:w1.frozen? ⟨w.heap.size,0,none⟩=false:=blk_free (below_heap hB1 Q0.out (lt_of_heap Q0.out))
        have yf1:w1.frozen? ⟨w.heap.size,1,none⟩=false:=blk_free (below_heap hB1 Q0.out (lt_of_heap Q0.out))
        have yf2:w1.frozen? ⟨w.heap.size,2,none⟩=false:=blk_free (below_heap hB1 Q0.out (lt_of_heap Q0.out))
        have yf3:w1.frozen? ⟨w.heap.size,3,none⟩=false:=blk_free (below_heap hB1 Q0.out (lt_of_heap Q0.out))
        have yf4:w1.frozen? ⟨w.heap.size,4,none⟩=false:=blk_free (below_heap hB1 Q0.out (lt_of_heap Q0.out))
        clear hb1)
     | fail)
   all_goals (
     obtain ⟨hg4,ht4⟩:=set5_same (below_heap hB1 Q0.out (lt_of_heap Q0.out))
     have hB4:=(Touch.of_below (S:=fun k=>k=w.heap.size) hB1).trans ht4
     go_wp2_with fail
     refine bodyPost_ret (results_cell_tmp rfl _ _ w.heap.size 0 rfl [.slice (some ⟨g0,0,none⟩) r.length r.length,.slice sa sn sc,.slice aa xa.length xa.length,.slice ua xu.length xu.length,.int .u64 t] _ (rangeAt_row hg4) Tryz.underlying27 rfl info_cfg) rfl ?_
     rw [← okC_some HDEC.out]
     exact ⟨⟨some ⟨g0,0,none⟩,r.length,r.length,sa,sn,sc,vs,aa,xa.length,xa.length,ua,xu.length,xu.length⟩,t,rfl,HBW.out.trans (hB4.below HBW.out.size (fun k hk e=>by omega)),GotC.yes HDEC.out ((HCF.out.touch hB4 (fun k hk e=>by omega)).imp hlo),GotO.yes HDEC.out ((HOW.out.touch hB4 (fun k hk e=>by omega)).low (by omega))⟩)
 · have hnone:decC b=none:=by
     cases bad with
     | true=>exact hbad rfl
     | false =>
       obtain ⟨r,s,xa,xu,hk,_⟩:=(hst rfl).2.2.2.2.2.2 rfl
       rw [hk]
       exact if_neg (fun e=>hok ⟨rfl,e⟩)
   have hE:Hid ((!bad && b'.isEmpty)=false):=Lib.hid (by
     cases bad with
     | true=>rfl
     | false =>
       have:b'≠[]:=fun e=>hok ⟨rfl,e⟩
       cases b' <;> simp_all)
   have HN:=Lib.hid hnone
   have HBW:=Lib.hid hBW
   have Q0:=Lib.hid q0
   rw [hE.out]
   clear hok hnone hst hbad hBW q0 ht
   go_wp2_with fail
   have kf0:W.frozen? ⟨w.heap.size,0,none⟩=false:=blk_free Q0.out
   have kf1:W.frozen? ⟨w.heap.size,1,none⟩=false:=blk_free Q0.out
   have kf2:W.frozen? ⟨w.heap.size,2,none⟩=false:=blk_free Q0.out
   have kf3:W.frozen? ⟨w.heap.size,3,none⟩=false:=blk_free Q0.out
   have kf4:W.frozen? ⟨w.heap.size,4,none⟩=false:=blk_free Q0.out
   go_region_law (fail)
   all_goals (
     obtain ⟨hg4,ht4⟩:=set5_same Q0.out
     have hB4:=ht4.drew
     go_wp2_with fail
     refine bodyPost_ret (results_cell_tmp rfl _ _ w.heap.size 0 rfl [.slice ra rn rc,.slice sa sn sc,.slice aa an ac,.slice ua un uc,.int .u64 t] _ (rangeAt_row (by exact hg4)) Tryz.underlying27 rfl info_cfg) rfl ?_
     rw [← okC_none HN.out]
     exact ⟨⟨ra,rn,rc,sa,sn,sc,[],aa,an,ac,ua,un,uc⟩,t,rfl,HBW.out.trans (hB4.below HBW.out.size (fun k hk e=>by omega)),GotC.no HN.out,GotO.no HN.out⟩)
/- Lists of lists of numbers in memory;conditions: those typed. -/
def IIv (w:World) (P:Nat→Prop) (vs:List Value) (L:List (List Int)):Prop:=vs.length=L.length∧∀ i (h:i<L.length),∃ a n c,vs[i]?=some (.slice a n c)∧IsIp w P a n c L[i]
theorem IIv.touch {S P:Nat→Prop} {w w':World} {vs:List Value} {L:List (List Int)} (h:IIv w P vs L) (ht:Touch S w w') (hs:∀ k,P k→¬ S k):IIv w' P vs L :=
 ⟨h.1,fun i hi=>by obtain ⟨a,n,c,h1,h2⟩:=h.2 i hi;exact ⟨a,n,c,h1,h2.touch ht hs⟩⟩
theorem IIv.below {P:Nat→Prop} {w w':World} {vs:List Value} {L:List (List Int)} (h:IIv w P vs L) (hb:Below w.heap.size w w'):IIv w' P vs L :=
 ⟨h.1,fun i hi=>by obtain ⟨a,n,c,h1,h2⟩:=h.2 i hi;exact ⟨a,n,c,h1,h2.below hb⟩⟩
theorem IIv.imp {P Q:Nat→Prop} {w:World} {vs:List Value} {L:List (List Int)} (h:IIv w P vs L) (hq:∀ k,P k→Q k):IIv w Q vs L :=
 ⟨h.1,fun i hi=>by obtain ⟨a,n,c,h1,h2⟩:=h.2 i hi;exact ⟨a,n,c,h1,h2.imp hq⟩⟩
theorem IIv.nil (w:World) (P:Nat→Prop):IIv w P [] []:=⟨rfl,fun i h=>by simp at h⟩
theorem IIv.snoc {w:World} {P:Nat→Prop} {vs:List Value} {L:List (List Int)} (h:IIv w P vs L) {a:Option Addr} {n c:Nat} {l:List Int} (hl:IsIp w P a n c l):IIv w P (vs ++ [.slice a n c]) (L ++ [l]):=by
 refine ⟨by simp [h.1],fun i hi => ?_⟩
 by_cases hil:i<L.length
 · obtain ⟨a',n',c',h1,h2⟩:=h.2 i hil
   refine ⟨a',n',c',?_,?_⟩
   · rw [List.getElem?_append_left (by rw [h.1];exact hil)];exact h1
   · rw [List.getElem_append_left hil];exact h2
 · have hie:i=L.length:=by simp at hi;omega
   subst hie
   refine ⟨a,n,c,?_,?_⟩
   · rw [List.getElem?_append_right (by rw [h.1];exact Nat.le_refl _),h.1,Nat.sub_self];rfl
   · rw [List.getElem_append_right (Nat.le_refl _)];simpa using hl
theorem IIv.one {w:World} {P:Nat→Prop} {vs:List Value} {L:List (List Int)} (h:IIv w P vs L):∀ v ∈ vs,v.oneCell'=true:=by
 intro v hv
 obtain ⟨i,hi,rfl⟩:=List.getElem_of_mem hv
 obtain ⟨a,n,c,h1,_⟩:=h.2 i (by rw [← h.1];exact hi)
 rw [List.getElem?_eq_getElem hi] at h1
 rw [Option.some.inj h1];rfl
def IsIIp (w:World) (P:Nat→Prop) (a:Option Addr) (n c:Nat) (vs:List Value) (L:List (List Int)):Prop :=
 n=L.length∧L.length≤c∧c≤maxLen∧IIv w P vs L∧(L=[]∨∃ b off,a=some ⟨b,off,none⟩∧P b∧b<w.heap.size∧∀ i (h:i<vs.length),w.cell? ⟨b,off+i,none⟩=some vs[i])
theorem IsIIp.touch {S P:Nat→Prop} {w w':World} {a:Option Addr} {n c:Nat} {vs:List Value} {L:List (List Int)} (h:IsIIp w P a n c vs L) (ht:Touch S w w') (hs:∀ k,P k→¬ S k):IsIIp w' P a n c vs L:=by
 obtain ⟨h1,h2,h3,h4,h5 | ⟨b,off,rfl,hP,hlt,hc⟩⟩:=h
 · exact ⟨h1,h2,h3,h4.touch ht hs,.inl h5⟩
 · exact ⟨h1,h2,h3,h4.touch ht hs,.inr ⟨b,off,rfl,hP,Nat.lt_of_lt_of_le hlt ht.size,fun i hi=>ht.cell (hc i hi) (hs b hP)⟩⟩
theorem IsIIp.below {P:Nat→Prop} {w w':World} {a:Option Addr} {n c:Nat} {vs:List Value} {L:List (List Int)} (h:IsIIp w P a n c vs L) (hb:Below w.heap.size w w'):IsIIp w' P a n c vs L:=h.touch (Touch.of_below (S:=fun _=>False) hb) (fun _ _=>id)
theorem IsIIp.imp {P Q:Nat→Prop} {w:World} {a:Option Addr} {n c:Nat} {vs:List Value} {L:List (List Int)} (h:IsIIp w P a n c vs L) (hq:∀ k,P k→Q k):IsIIp w Q a n c vs L:=by
 obtain ⟨h1,h2,h3,h4,h5 | ⟨b,off,rfl,hP,hlt,hc⟩⟩:=h
 · exact ⟨h1,h2,h3,h4.imp hq,.inl h5⟩
 · exact ⟨h1,h2,h3,h4.imp hq,.inr ⟨b,off,rfl,hq b hP,hlt,hc⟩⟩
theorem IsIIp.at {w:World} {P:Nat→Prop} {a:Option Addr} {n c:Nat} {vs:List Value} {L:List (List Int)} (h:IsIIp w P a n c vs L):At w a vs:=by
 obtain ⟨h1,h2,h3,h4,h5 | ⟨b,off,rfl,hP,hlt,hc⟩⟩:=h
 · have:vs=[]:=List.eq_nil_of_length_eq_zero (by rw [h4.1,h5];rfl)
   rw [this];exact At.nil _ _
 · exact At.of_cells hc
def IIn (B:Nat) (w:World) (vs:List Value) (s:List (List Int)):Prop:=vs.length=s.length∧(∀ i (h:i<s.length),∃ a,vs[i]?=some (.slice a s[i].length s[i].length)∧NwI B w a s[i])∧Asc vs
theorem IIn.nil (B:Nat) (w:World):IIn B w [] []:=⟨rfl,fun i h=>by simp at h,Asc.nil⟩
theorem IIn.touch {B:Nat} {S:Nat→Prop} {w w':World} {vs:List Value} {s:List (List Int)} (h:IIn B w vs s) (ht:Touch S w w') (hs:∀ k,B≤k→(∃ cur,w.heap[k]?=some (.cells cur 3 (0,0)))→¬ S k):IIn B w' vs s:=by
 refine ⟨h.1,fun i hi => ?_,h.2.2⟩
 obtain ⟨a,h1,c,h2⟩:=h.2.1 i hi
 exact ⟨a,h1,c,owns_touch h2 ht (fun k hk=>hs k (owns_base h2 k hk) (owns_block h2 hk))⟩
theorem IIn.snoc {B:Nat} {w:World} {vs:List Value} {s:List (List Int)} (h:IIn B w vs s) {a:Option Addr} {l:List Int} (hl:NwI B w a l) {m:Nat} (hlt:AllLt vs m) (ha:∀ k off,a=some ⟨k,off,none⟩→m≤k):IIn B w (vs ++ [.slice a l.length l.length]) (s ++ [l]):=by
 refine ⟨by simp [h.1],fun i hi => ?_,h.2.2.snoc hlt (fun k hk=>by
   obtain ⟨c,hl⟩:=hl
   rcases hl.2 with ⟨e,_⟩ | ⟨g,cap,cur,e,_⟩
   · obtain ⟨rfl,_,_⟩:=Value.slice.inj e;cases hk
   · obtain ⟨rfl,_,_⟩:=Value.slice.inj e;cases hk;exact ha _ _ rfl)⟩
 by_cases hil:i<s.length
 · obtain ⟨a',h1,h2⟩:=h.2.1 i hil
   rw [List.getElem_append_left hil]
   exact ⟨a',by rw [List.getElem?_append_left (by rw [h.1];exact hil)];exact h1,h2⟩
 · have hie:i=s.length:=by simp at hi;omega
   subst hie
   have e:(s ++ [l])[s.length]'hi=l:=by simp
   rw [e]
   exact ⟨a,by rw [List.getElem?_append_right (by rw [h.1];exact Nat.le_refl _),h.1,Nat.sub_self];rfl,hl⟩
theorem IIn.iiv {B:Nat} {w:World} {vs:List Value} {s:List (List Int)} (h:IIn B w vs s):IIv w (fun k=>B≤k) vs s :=
 ⟨h.1,fun i hi=>by obtain ⟨a,h1,h2⟩:=h.2.1 i hi;exact ⟨a,_,_,h1,h2.isIp⟩⟩
theorem IIn.lt {B:Nat} {w:World} {vs:List Value} {s:List (List Int)} (h:IIn B w vs s):AllLt vs w.heap.size:=fun i x k hx hk=>by
 have hi:i<vs.length:=(List.getElem?_eq_some_iff.1 hx).1
 obtain ⟨a,h1,c,h2⟩:=h.2.1 i (by rw [← h.1];exact hi)
 rw [hx] at h1
 obtain rfl:=Option.some.inj h1
 cases a with
 | none=>cases hk
 | some x =>
   obtain ⟨cur,hc⟩:=owns_block h2 (k:=k) hk
   exact lt_of_heap hc
def LstV (B:Nat) (w:World) (v:Value) (s:List (List Int)):Prop:=∃ a c vs,v=.slice a s.length c∧w.ownsRow B 22 1 v s.length vs∧IIn B w vs s
theorem LstV.nil (B:Nat) (w:World):LstV B w (.slice none 0 0) []:=⟨none,0,[],rfl,World.ownsRow_nil _ _ _ _,IIn.nil _ _⟩
theorem LstV.touch {B:Nat} {S:Nat→Prop} {w w':World} {v:Value} {s:List (List Int)} (h:LstV B w v s) (ht:Touch S w w') (hs:∀ k,B≤k→¬ S k):LstV B w' v s:=by
 obtain ⟨a,c,vs,h1,h2,h3⟩:=h
 exact ⟨a,c,vs,h1,owns_touch h2 ht (fun k hk=>hs k (owns_base h2 k hk)),h3.touch ht (fun k hk _=>hs k hk)⟩
theorem LstV.low {B B':Nat} {w:World} {v:Value} {s:List (List Int)} (h:LstV B w v s) (hb:B'≤B):LstV B' w v s:=by
 obtain ⟨a,c,vs,h1,h2,h3,h4,h7⟩:=h
 exact ⟨a,c,vs,h1,owns_low h2 hb,h3,fun i hi=>by obtain ⟨a,h5,h6⟩:=h4 i hi;exact ⟨a,h5,h6.low hb⟩,h7⟩
theorem LstV.isIIp {B:Nat} {w:World} {a:Option Addr} {n c:Nat} {s:List (List Int)} (h:LstV B w (.slice a n c) s):∃ vs,IsIIp w (fun k=>B≤k) a n c vs s:=by
 obtain ⟨a',c',vs,e,ho,hn⟩:=h
 cases e
 refine ⟨vs,rfl,?_,?_,hn.iiv,?_⟩
 · rcases ho.2 with ⟨h,h0⟩ | ⟨g,cap,cur,h,_,_,hnc,hcm,_⟩
   · obtain ⟨_,h1,h2⟩:=Value.slice.inj h;omega
   · cases h;exact hnc
 · rcases ho.2 with ⟨h,h0⟩ | ⟨g,cap,cur,h,_,_,hnc,hcm,_⟩
   · obtain ⟨_,h1,h2⟩:=Value.slice.inj h;rw [h2];decide
   · cases h;exact hcm
 · rcases ho.2 with ⟨h,h0⟩ | ⟨g,cap,cur,h,hb,hg,_⟩
   · exact .inl (List.eq_nil_of_length_eq_zero h0)
   · cases h
     refine .inr ⟨g,0,rfl,hb,lt_of_heap hg,fun i hi => ?_⟩
     rw [Nat.zero_add]
     exact cells_of_owns ho i _ (List.getElem?_eq_getElem hi)
end Go.Proofs.YtgbikngicidbkaaGreatDoor
