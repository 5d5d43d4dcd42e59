/- The package stores: Market;slices.Clone and Clip at numbers;conditions: those typed. -/
import Derived.Test.YtgbikngicidbkaaGreatDoorQMChkSameRSameC
import Derived.Test.YtgbikngicidbkaaGreatDoorQGStTwStTRStOpnStGrtStCfgStGrtE
import Derived.Test.YtgbikngicidbkaaGreatDoorQStore1
import Derived.Test.YtgbikngicidbkaaGreatDoorQKBKIntKBpCKBpL
import Derived.Test.YtgbikngicidbkaaGreatDoorQR19SR19TR19PR19WSameS
import Derived.Test.YtgbikngicidbkaaGreatDoorQR20aR20bR20pR20c
import Derived.Test.YtgbikngicidbkaaGreatDoorQGSlotsGetGSlotsLaw2StOldP
namespace Go.Proofs.YtgbikngicidbkaaGreatDoor
open Go.RowKit
set_option linter.unusedVariables false
set_option linter.unusedSimpArgs false
theorem infoII:(Tryz.prog.info? 22).map (fun i=>(i.zero,i.size,i.bytes))=some (some (.slice none 0 0),1,24):=by kernel_rfl
theorem rowII:RowTy Tryz.prog 82 22 1 24 (.slice none 0 0):=⟨Tryz.underlying82,infoII,rfl,by decide⟩
theorem IsI.at' {w:World} {a:Option Addr} {n c:Nat} {l:List Int} (h:IsI w a n c l):At w a (icells l):=by
 obtain ⟨h1,h2,h3,⟨h4,_⟩ | ⟨b,off,rfl,hlt,hc⟩⟩:=h
 · rw [h4];exact At.nil _ _
 · refine At.of_cells fun i hi => ?_
   have hi':i<l.length:=by simpa [icells] using hi
   rw [hc i hi'];simp [icells]
set_option maxHeartbeats 400000 in
theorem iclone_any (a:Option Addr) (n c:Nat) (l:List Int) (w:World) (h:IsI w a n c l) (hm:l.length≤17592186044416) :
   Calls Tryz.prog 89 #[.slice a n c] w fun e w' => ∃ a' c',e=.returned (.slice a' l.length c')∧Below w.heap.size w w'∧w'.ownsRow w.heap.size 3 1 (.slice a' l.length c') l.length (icells l):=by
 have hq:∀ (w:World) (a:Option Addr) (n c:Nat),(binOp .eql 22 (.slice a n c) (.slice none 0 0)).run Tryz.prog w=.ok (.bool a.isNone) w:=fun w a n c=>Lib.run_eql_slice_nil w _ _ a n c 0 0 Tryz.underlying22
 obtain rfl:=h.1
 cases a with
 | none =>
   have hnil:l=[]:=by
     obtain ⟨_,_,_,⟨h,_⟩ | ⟨_,_,h,_⟩⟩:=h
     · exact h
     · cases h
   subst hnil
   clear h
   go_enter Tryz.func89,Tryz.ntmps89
   go_wp2
   go_ret
   exact ⟨none,0,rfl,Below.refl _ _,World.ownsRow_nil _ _ _ _⟩
 | some x =>
   have hat:=(h.below ((Below.refl _ w).alloc (Nat.le_refl _) (.cells #[] 3))).at'
   have hone:∀ v ∈ icells l,v.oneCell'=true:=by intro v hv;simp [icells] at hv;obtain ⟨z,_,rfl⟩:=hv;rfl
   have hil:(icells l).length=l.length:=by simp [icells]
   clear h
   go_enter Tryz.func89,Tryz.ntmps89
   go_wp2_with (at_builtin;refine wpList_append_any rowInt rfl _ _ rfl w.heap.size _ 0 [] rfl (World.ownsRow_made w #[] 0 (Nat.le_refl _) (Nat.zero_le _) rfl) (some x) l.length c (icells l) rfl (by rw [hil];omega) hat hone (by unfold maxLen;omega) (by omega) (by simp) ?_;intro b2 c2 w2 hown2 hg2 hat2;simp only [Nat.zero_add,List.nil_append] at hown2 hat2)
   go_ret
   refine ⟨b2,c2,rfl,((Below.refl _ w).alloc (Nat.le_refl _) _).grown hg2 (by simp) (fun j hj => ?_),hown2⟩
   have hj':some w.heap.size=some j:=hj
   cases hj'
   exact Nat.le_refl _
set_option maxHeartbeats 400000 in
theorem iclip_any (a:Option Addr) (n c:Nat) (w:World) (hn:n≤c) (hc:c≤maxLen) (ha:a=none→c=0) :
   Calls Tryz.prog 88 #[.slice a n c] w fun e w' => e=.returned (.slice a n n)∧w=w':=by
 unfold maxLen at hc
 cases a with
 | none =>
   obtain rfl:=ha rfl
   obtain rfl:n=0:=by omega
   go_enter Tryz.func88,Tryz.ntmps88
   go_wp2
   go_ret
   exact ⟨rfl,rfl⟩
 | some x =>
   clear ha
   go_enter Tryz.func88,Tryz.ntmps88
   go_wp2
   go_ret
   exact ⟨rfl,rfl⟩
theorem owns_caps {w:World} {B e n:Nat} {a:Option Addr} {m c:Nat} {xs:List Value} (h:w.ownsRow B e 1 (.slice a m c) n xs):m≤c∧c≤maxLen∧(a=none→c=0):=by
 rcases h.2 with ⟨h,h0⟩ | ⟨g,cap,cur,h,_,_,hnc,hcm,_⟩
 · obtain ⟨h1,h2,h3⟩:=Value.slice.inj h
   exact ⟨by omega,by rw [h3];decide,fun _=>h3⟩
 · obtain ⟨h1,h2,h3⟩:=Value.slice.inj h
   subst h1 h2 h3
   exact ⟨hnc,hcm,fun h=>by cases h⟩
def bidsK (items:Nat) (D:Dsk) (n:Nat):List (List Int):=(List.range n).map fun i=>(rcD items D i).1.bid
theorem bidsK_succ (items:Nat) (D:Dsk) (n:Nat):bidsK items D (n+1)=bidsK items D n ++ [(rcD items D n).1.bid]:=by simp [bidsK,List.range_succ]
theorem bidsK_length (items:Nat) (D:Dsk) (n:Nat):(bidsK items D n).length=n:=by simp [bidsK]
def mktC (c:StC) (D:Dsk):MkC:=⟨c.r,bidsK c.r.length D c.s.length,ordL c.s.length D⟩
theorem NwI.lt {B:Nat} {w:World} {a:Option Addr} {l:List Int} (h:NwI B w a l):∀ k off,a=some ⟨k,off,none⟩→k<w.heap.size:=by
 obtain ⟨c,h⟩:=h
 intro k off e
 subst e
 obtain ⟨cur,hc⟩:=owns_block h (k:=k) rfl
 exact lt_of_heap hc
theorem NwI.above {B B':Nat} {w:World} {a:Option Addr} {l:List Int} (h:NwI B w a l) (hb:∀ k off,a=some ⟨k,off,none⟩→B'≤k):NwI B' w a l:=by
 obtain ⟨c,h1,h2⟩:=h
 refine ⟨c,h1,?_⟩
 rcases h2 with h0 | ⟨g,cap,cur,hv,hg,h3⟩
 · exact .inl h0
 · obtain ⟨rfl,_,_⟩:=Value.slice.inj hv
   exact .inr ⟨g,cap,cur,hv,hb g 0 rfl,h3⟩
def MkO (B:Nat) (w:World) (y:MkA) (M:MkC):Prop:=(y.rn=M.r.length∧y.rc=M.r.length∧y.on=M.o.length∧y.oc=M.o.length)∧∃ m lo,B≤m∧m≤lo∧NwI B w y.oa M.o∧(∀ k off,y.oa=some ⟨k,off,none⟩→k<m)∧NwI m w y.ra M.r∧(∀ k off,y.ra=some ⟨k,off,none⟩→k<lo)∧LstV lo w (.slice y.ba y.bn y.bc) M.b
theorem MkO.touch {B:Nat} {S:Nat→Prop} {w w':World} {y:MkA} {M:MkC} (h:MkO B w y M) (ht:Touch S w w') (hs:∀ k,B≤k→¬ S k):MkO B w' y M:=by
 obtain ⟨h0,m,lo,h1,h2,h3,h4,h5,h6,h7⟩:=h
 exact ⟨h0,m,lo,h1,h2,h3.touch ht hs,h4,h5.touch ht (fun k hk=>hs k (Nat.le_trans h1 hk)),h6,h7.touch ht (fun k hk=>hs k (Nat.le_trans h1 (Nat.le_trans h2 hk)))⟩
theorem MkO.below {B:Nat} {w w':World} {y:MkA} {M:MkC} (h:MkO B w y M) (hb:Below w.heap.size w w'):MkO B w' y M:=h.touch (Touch.of_below (S:=fun _=>False) hb) (fun _ _=>id)
theorem MkO.low {B B':Nat} {w:World} {y:MkA} {M:MkC} (h:MkO B w y M) (hb:B'≤B):MkO B' w y M:=by
 obtain ⟨h0,m,lo,h1,h2,h3,h4,h5,h6,h7⟩:=h
 exact ⟨h0,m,lo,Nat.le_trans hb h1,h2,h3.low hb,h4,h5,h6,h7⟩
def MktQ (w:World) (c:StC) (D:Dsk) (e:Ending) (w':World):Prop :=
 (ordE c.s.length D≠0∧e=.returned (.tuple #[.agg #[.slice none 0 0,.slice none 0 0,.slice none 0 0],.int .i64 (ordE c.s.length D)])) ∨
 (ordE c.s.length D=0∧mktB (mktC c D)=false∧e=.returned (.tuple #[.agg #[.slice none 0 0,.slice none 0 0,.slice none 0 0],.int .i64 4])) ∨
 (ordE c.s.length D=0∧mktB (mktC c D)=true∧∃ x:MkA,e=.returned (.tuple #[.agg x.cells.toArray,.int .i64 0])∧IsMk w' (fun k=>w.heap.size≤k) x (mktC c D)∧MkO w.heap.size w' x (mktC c D))
theorem IsIp.both {P Q:Nat→Prop} {w:World} {a:Option Addr} {n c:Nat} {l:List Int} (h:IsIp w P a n c l) (k:IsIp w Q a n c l):IsIp w (fun b=>P b∧Q b) a n c l:=⟨h.1,fun b off ha hl=>⟨h.2 b off ha hl,k.2 b off ha hl⟩⟩
theorem IsBp.both {P Q:Nat→Prop} {w:World} {a:Option Addr} {n c:Nat} {l:List UInt8} (h:IsBp w P a n c l) (k:IsBp w Q a n c l):IsBp w (fun b=>P b∧Q b) a n c l:=⟨h.1,fun b off ha hl=>⟨h.2 b off ha hl,k.2 b off ha hl⟩⟩
theorem BBv.both {P Q:Nat→Prop} {w:World} {vs:List Value} {L:List (List UInt8)} (h:BBv w P vs L) (k:BBv w Q vs L):BBv w (fun b=>P b∧Q b) vs L :=
 ⟨h.1,fun i hi=>by
   obtain ⟨a,n,c,h1,h2⟩:=h.2 i hi
   obtain ⟨a',n',c',k1,k2⟩:=k.2 i hi
   rw [h1] at k1
   cases k1
   exact ⟨a,n,c,h1,h2.both k2⟩⟩
theorem IsBBp.both {P Q:Nat→Prop} {w:World} {a:Option Addr} {n c:Nat} {vs:List Value} {L:List (List UInt8)} (h:IsBBp w P a n c vs L) (k:IsBBp w Q a n c vs L):IsBBp w (fun b=>P b∧Q b) a n c vs L:=by
 obtain ⟨h1,h2,h3,h4,h5⟩:=h
 obtain ⟨_,_,_,k4,k5⟩:=k
 refine ⟨h1,h2,h3,h4.both k4,?_⟩
 rcases h5 with h5 | ⟨b,off,rfl,hP,hlt,hc⟩
 · exact .inl h5
 · rcases k5 with k5 | ⟨b',off',e,hQ,_,_⟩
   · exact .inl k5
   · cases e;exact .inr ⟨b,off,rfl,⟨hP,hQ⟩,hlt,hc⟩
theorem IsCf.both {P Q:Nat→Prop} {w:World} {x:StA} {c:StC} (h:IsCf w P x c) (k:IsCf w Q x c):IsCf w (fun b=>P b∧Q b) x c:=⟨h.r.both k.r,h.s.both k.s,h.a.both k.a,h.u.both k.u,h.t⟩
theorem IsBp.low {P:Nat→Prop} {w:World} {a:Option Addr} {n c:Nat} {l:List UInt8} (h:IsBp w P a n c l):IsBp w (fun k=>k<w.heap.size) a n c l:=⟨h.1,fun b off ha hl=>h.1.ltSize b off ha hl⟩
theorem IsIp.low {P:Nat→Prop} {w:World} {a:Option Addr} {n c:Nat} {l:List Int} (h:IsIp w P a n c l):IsIp w (fun k=>k<w.heap.size) a n c l:=⟨h.1,fun b off ha hl=>h.1.ltSize b off ha hl⟩
theorem IsBBp.low {P:Nat→Prop} {w:World} {a:Option Addr} {n c:Nat} {vs:List Value} {L:List (List UInt8)} (h:IsBBp w P a n c vs L):IsBBp w (fun k=>k<w.heap.size) a n c vs L:=by
 obtain ⟨h1,h2,h3,h4,h5⟩:=h
 refine ⟨h1,h2,h3,⟨h4.1,fun i hi=>by obtain ⟨a,n,c,k1,k2⟩:=h4.2 i hi;exact ⟨a,n,c,k1,k2.low⟩⟩,?_⟩
 rcases h5 with h5 | ⟨b,off,rfl,hP,hlt,hc⟩
 · exact .inl h5
 · exact .inr ⟨b,off,rfl,hlt,hlt,hc⟩
theorem IsCf.low {P:Nat→Prop} {w:World} {x:StA} {c:StC} (h:IsCf w P x c):IsCf w (fun k=>k<w.heap.size) x c:=⟨h.r.low,h.s.low,h.a.low,h.u.low,h.t⟩
theorem IsStore.put' {w w':World} {S:Nat→Prop} {B bs bd bl:Nat} {x:StA} {c:StC} {D:Dsk} (h:IsStore w bs bd bl x c D) (hc:IsCf w (fun k=>k<B) x c) (ht:Touch S w w') (hS:∀ k,S k→B≤k) (h1:bs<B) (h2:bd<B∧bl<B):IsStore w' bs bd bl x c D :=
 ⟨ht.heap h.cells (fun e=>by have:=hS _ e;omega),h.disk.touch ht (fun e=>by have:=hS _ e;omega) (fun e=>by have:=hS _ e;omega),((h.cfg.both hc).touch ht (fun k hk e=>by have:=hS _ e;omega)).imp (fun k hk=>hk.1),h.ne⟩
theorem NwI.touch' {B:Nat} {S:Nat→Prop} {w w':World} {a:Option Addr} {l:List Int} (h:NwI B w a l) (ht:Touch S w w') (hs:∀ k off,a=some ⟨k,off,none⟩→¬ S k):NwI B w' a l:=by
 obtain ⟨c,h⟩:=h
 refine ⟨c,owns_touch h ht (fun k hk => ?_)⟩
 cases a with
 | none=>cases hk
 | some x =>
   have e:some x.block=some k:=hk
   cases e
   rcases h.2 with ⟨h,_⟩ | ⟨g,_,_,h,_⟩
   · cases h
   · obtain ⟨h1,_⟩:=Value.slice.inj h
     cases h1
     exact hs _ _ rfl
theorem info_int1:(Tryz.prog.info? 22).map (·.size)=some 1:=by kernel_rfl
structure MkJ (w:World) (bs bd bl:Nat) (y:StA) (c:StC) (D:Dsk) (lo:Nat) (ra oa:Option Addr) (k:Nat) (W:World):Prop where
 bel:Below w.heap.size w W
 st:IsStore W bs bd bl y c D
 cf:IsCf W (fun k=>k<w.heap.size) y c
 m:∃ v,W.heap[w.heap.size]?=some (.cells #[.slice ra c.r.length c.r.length,v,.slice oa (ordL c.s.length D).length (ordL c.s.length D).length] 84 (0,0))∧LstV lo W v (bidsK c.r.length D k)
 r:NwI (w.heap.size+1) W ra c.r
 o:NwI (w.heap.size+1) W oa (ordL c.s.length D)
 lo:w.heap.size+1≤lo∧lo≤W.heap.size
theorem nwI_apart {B B' e:Nat} {w:World} {a va:Option Addr} {l:List Int} {vn vc:Nat} {vs:List Value} (h:NwI B w a l) (ho:w.ownsRow B' e 1 (.slice va vn vc) vn vs) (he:e≠3):∀ k off,a=some ⟨k,off,none⟩→(Value.slice va vn vc).ownBlock≠some k:=fun k off ha hk=>by
 obtain ⟨c,h⟩:=h
 subst ha
 exact owns_ne ho h he k hk rfl
theorem mk_step {w wr w1 w2:World} {bs bd bl lo:Nat} {y:StA} {c:StC} {D:Dsk} {ra oa va a b2:Option Addr} {k vc c2:Nat} {vs:List Value} {l:List Int} {o1 o2:Obj} (hJ:MkJ w bs bd bl y c D lo ra oa k wr)
   (hB:bs<w.heap.size∧bd<w.heap.size∧bl<w.heap.size) (hra:∀ k off,ra=some ⟨k,off,none⟩→w.heap.size<k) (hoa:∀ k off,oa=some ⟨k,off,none⟩→w.heap.size<k)
   (hm:wr.heap[w.heap.size]?=some (.cells #[.slice ra c.r.length c.r.length,.slice va k vc,.slice oa (ordL c.s.length D).length (ordL c.s.length D).length] 84 (0,0)))
   (ho:wr.ownsRow lo 22 1 (.slice va k vc) k vs) (hn:IIn lo wr vs (bidsK c.r.length D k)) (hb1:Below wr.heap.size wr w1) (hnew:NwI wr.heap.size w1 a l) (hl:(rcD c.r.length D k).1.bid=l)
   (hg2:((w1.alloc o1).alloc o2).grownBy w2 (Value.slice va k vc).ownBlock) (hown2:w2.ownsRow lo 22 1 (.slice b2 (k+1) c2) (k+1) (vs ++ [.slice a l.length l.length])) :
   MkJ w bs bd bl y c D lo ra oa (k+1) (w2.setCell ⟨w.heap.size,1,none⟩ (.slice b2 (k+1) c2))∧w2.heap[w.heap.size]?=some (.cells #[.slice ra c.r.length c.r.length,.slice va k vc,.slice oa (ordL c.s.length D).length (ordL c.s.length D).length] 84 (0,0)):=by
 have hwlt:w.heap.size<wr.heap.size:=lt_of_heap hm
 have hvb:∀ k',(Value.slice va k vc).ownBlock=some k'→w.heap.size≤k'∧k'<wr.heap.size∧k'≠w.heap.size:=fun k' hk' => by
   obtain ⟨cur,hcur⟩:=owns_block ho hk'
   have:=owns_base ho k' hk'
   have:=hJ.lo.1
   exact ⟨by omega,lt_of_heap hcur,by omega⟩
 have t1:Touch (fun j=>(Value.slice va k vc).ownBlock=some j) wr w2:=(((Touch.of_below (S:=fun j=>(Value.slice va k vc).ownBlock=some j) hb1).alloc o1).alloc o2).grown hg2 (fun j hj=>.inl hj)
 have hm2:=t1.heap hm (fun e=>(hvb _ e).2.2 rfl)
 have t2:Touch (fun j=>j=w.heap.size) w2 (w2.setCell ⟨w.heap.size,1,none⟩ (.slice b2 (k+1) c2)):=(Touch.refl (fun j=>j=w.heap.size) w2).setCell _ _ (.inl rfl)
 have tS:Touch (fun j=>j=w.heap.size∨(Value.slice va k vc).ownBlock=some j) wr (w2.setCell ⟨w.heap.size,1,none⟩ (.slice b2 (k+1) c2)):=(t1.weaken (fun _ _ h=>.inr h)).trans (t2.weaken (fun _ _ h=>.inl h))
 have hSB:∀ j,(j=w.heap.size∨(Value.slice va k vc).ownBlock=some j)→w.heap.size≤j:=fun j hj=>by
   rcases hj with rfl | hj
   · exact Nat.le_refl _
   · exact (hvb j hj).1
 have hint:∀ j,(∃ cur,wr.heap[j]?=some (.cells cur 3 (0,0)))→¬ (j=w.heap.size∨(Value.slice va k vc).ownBlock=some j):=fun j ⟨cur,hc⟩ hj=>by
   rcases hj with rfl | hj
   · rw [hm] at hc;exact absurd (Obj.cells.inj (Option.some.inj hc)).2.1 (by decide)
   · obtain ⟨cur2,hc2⟩:=owns_block ho hj
     rw [hc] at hc2;exact absurd (Obj.cells.inj (Option.some.inj hc2)).2.1 (by decide)
 have hm3:(w2.setCell ⟨w.heap.size,1,none⟩ (.slice b2 (k+1) c2)).heap[w.heap.size]?=some (.cells #[.slice ra c.r.length c.r.length,.slice b2 (k+1) c2,.slice oa (ordL c.s.length D).length (ordL c.s.length D).length] 84 (0,0)):=by
   rw [heap_setCell_same _ _ 1 _ _ _ hm2];rfl
 have hb2:∀ j,(Value.slice b2 (k+1) c2).ownBlock=some j→¬ (j=w.heap.size):=fun j hj e=>by
   obtain ⟨cur,hc⟩:=owns_block hown2 hj
   rw [e,hm2] at hc
   exact absurd (Obj.cells.inj (Option.some.inj hc)).2.1 (by decide)
 have hnn:NwI lo (w2.setCell ⟨w.heap.size,1,none⟩ (.slice b2 (k+1) c2)) a l:=by
   have q1:Touch (fun j=>j=w.heap.size∨(Value.slice va k vc).ownBlock=some j) w1 (w2.setCell ⟨w.heap.size,1,none⟩ (.slice b2 (k+1) c2)) :=
     (((((Touch.refl (fun j=>j=w.heap.size∨(Value.slice va k vc).ownBlock=some j) w1).alloc o1).alloc o2).grown hg2 (fun j hj=>.inl (.inr hj))).trans (t2.weaken (fun _ _ h=>.inl h)))
   exact (hnew.touch' q1 (fun j off e hj=>by
     have:=hnew.base j off e
     rcases hj with rfl | hj
     · omega
     · have:=(hvb j hj).2.1;omega)).low hJ.lo.2
 refine ⟨⟨hJ.bel.trans (tS.below hJ.bel.size (fun j hj e=>by have:=hSB j e;omega)),hJ.st.put' hJ.cf tS hSB hB.1 hB.2,hJ.cf.touch tS (fun j hj e=>by have:=hSB j e;omega),⟨_,hm3,?_⟩,?_,?_,hJ.lo.1,Nat.le_trans hJ.lo.2 tS.size⟩,hm2⟩
 · rw [bidsK_succ,hl]
   refine ⟨b2,c2,vs ++ [.slice a l.length l.length],by rw [List.length_append,bidsK_length];rfl,?_,(hn.touch tS (fun j _ hc=>hint j hc)).snoc hnn hn.lt (fun k off e=>hnew.base k off e)⟩
   rw [List.length_append,bidsK_length]
   exact owns_touch hown2 t2 hb2
 · exact hJ.r.touch' tS (fun j off e hj=>by
     rcases hj with rfl | hj
     · have:=hra _ off e;omega
     · exact nwI_apart hJ.r ho (by decide) j off e hj)
 · exact hJ.o.touch' tS (fun j off e hj=>by
     rcases hj with rfl | hj
     · have:=hoa _ off e;omega
     · exact nwI_apart hJ.o ho (by decide) j off e hj)
set_option maxRecDepth 100000 in
set_option maxHeartbeats 8000000 in
theorem market_pub (bs bd bl:Nat) (x:StA) (c:StC) (D:Dsk) (w:World) (h:IsStore w bs bd bl x c D) (hs:c.s.length≤1000) (hr:c.r.length≤1000000) :
   Calls Tryz.prog 34 #[.pointer (some ⟨bs,0,none⟩)] w fun e w' => MktQ w c D e w'∧Below w.heap.size w w':=by
 have hb0:Below w.heap.size w (w.alloc (.cells #[.slice none 0 0,.slice none 0 0,.slice none 0 0] 84)):=(Below.refl _ _).alloc (Nat.le_refl _) _
 have hv:=heap_new w (.cells #[.slice none 0 0,.slice none 0 0,.slice none 0 0] 84 (0,0))
 have HST:=Lib.hid (h.below hb0)
 have HBS:Hid (bs<w.heap.size∧bd<w.heap.size∧bl<w.heap.size):=Lib.hid ⟨lt_of_heap h.cells,h.lt.1,h.lt.2⟩
 have HCF:=Lib.hid (h.cfg.low.below hb0)
 clear h
 go_enter Tryz.func34,Tryz.ntmps34
 go_wp2_with fail
 generalize w.alloc (.cells #[.slice none 0 0,.slice none 0 0,.slice none 0 0] 84)=w0 at hb0 hv HST HCF ⊢
 refine (order_pub bs bd bl x c D w0 HST.out).mono ?_;rintro e w1 ⟨oa,rfl,hb1,ho1⟩
 have HB1:=Lib.hid (hb0.trans (hb1.mono hb0.size))
 have v1:=below_heap hb1 hv (lt_of_heap hv)
 have HST1:=Lib.hid (HST.out.below hb1)
 have HCF1:=Lib.hid (HCF.out.below hb1)
 clear HCF
 have HCF:=HCF1
 clear HCF1
 have hsz:w.heap.size<w0.heap.size:=lt_of_heap hv
 have HO1:=Lib.hid (ho1.low (B':=w.heap.size+1) hsz)
 have HOB:Hid (∀ k off,oa=some ⟨k,off,none⟩→w.heap.size<k):=Lib.hid (fun k off e=>Nat.lt_of_lt_of_le hsz (ho1.base k off e))
 clear hb0 hv hb1 HST ho1 hsz
 have V1:=Lib.hid v1
 have hoc:ordE c.s.length D=0∨ordE c.s.length D=8:=by unfold ordE;split <;> simp
 rcases hoc with hoc | hoc
 case inr =>
   have HOC:=Lib.hid hoc
   rw [hoc]
   clear hoc v1
   go_wp2_with (first
     | (refine wpList_store_at rfl 22 (.tmp 12) (.tmp 10) rfl w.heap.size 2 rfl (.slice oa (ordL c.s.length D).length (ordL c.s.length D).length) rfl rfl _ _ V1.out (by decide) info_int1 ?_;intro w2 ht2 hg2
        have hg2':w2.heap[w.heap.size]?=some (.cells #[.slice none 0 0,.slice none 0 0,.slice oa (ordL c.s.length D).length (ordL c.s.length D).length] 84 (0,0)):=hg2)
     | (refine wpList_store_whole rfl 84 (.tmp 2) (.tmp 15) rfl w.heap.size [.slice none 0 0,.slice none 0 0,.slice none 0 0] _ _ hg2' rfl rfl rfl info_mkt (mkt_one _ _ _ _ _ _ _ _ _) ?_;intro w4 ht4 hg4)
     | fail)
   refine bodyPost_ret (results_cell_tmp rfl _ _ w.heap.size 0 rfl [.slice none 0 0,.slice none 0 0,.slice none 0 0] _ (rangeAt_row hg4) Tryz.underlying84 rfl info_mkt) rfl ?_
   have HB2:=HB1.out.trans (ht2.below HB1.out.size (fun k hk e=>by omega))
   exact ⟨.inl ⟨by rw [HOC.out];decide,by rw [HOC.out];rfl⟩,HB2.trans (ht4.below HB2.size (fun k hk e=>by omega))⟩
 case inl =>
   have HOC:=Lib.hid hoc
   rw [hoc]
   clear hoc v1
   go_wp2_with (first
     | (refine wpList_store_at rfl 22 (.tmp 12) (.tmp 10) rfl w.heap.size 2 rfl (.slice oa (ordL c.s.length D).length (ordL c.s.length D).length) rfl rfl _ _ V1.out (by decide) info_int1 ?_;intro w2 ht2 hg2
        have HG2:=Lib.hid (show w2.heap[w.heap.size]?=some (.cells #[.slice none 0 0,.slice none 0 0,.slice oa (ordL c.s.length D).length (ordL c.s.length D).length] 84 (0,0)) from hg2)
        have HB2:=Lib.hid (HB1.out.trans (ht2.below HB1.out.size (fun k hk e=>by omega)))
        have HST2:=Lib.hid (HST1.out.put' HCF.out ht2 (fun k hk=>by omega) HBS.out.1 HBS.out.2)
        have HCF2:=Lib.hid (HCF.out.touch ht2 (fun k hk e=>by omega))
        have HO2:=Lib.hid (HO1.out.touch' ht2 (fun k off e hk=>by have:=HOB.out k off e;omega))
        have f0:=HST2.out.f.1
        rw [HST2.out.rn.1] at f0
        clear ht2 hg2)
     | fail)
   have hir:=HST2.out.cfg.r.1
   rw [HST2.out.rn.1] at hir
   refine (iclone_any x.ra c.r.length x.rc c.r w2 hir (by omega)).mono ?_;rintro e w3 ⟨ra,rc,rfl,hb3,hr3⟩
   have HR3:Hid (NwI w2.heap.size w3 ra c.r):=Lib.hid ⟨rc,hr3⟩
   have HB3:=Lib.hid (HB2.out.trans (hb3.mono HB2.out.size))
   have HST3:=Lib.hid (HST2.out.below hb3)
   have HCF3:=Lib.hid (HCF2.out.below hb3)
   have HO3:=Lib.hid (HO2.out.below hb3)
   have G3:=Lib.hid (below_heap hb3 HG2.out (lt_of_heap HG2.out))
   have HCAP:=Lib.hid (owns_caps hr3)
   have HW2:Hid (w.heap.size<w2.heap.size):=Lib.hid (lt_of_heap HG2.out)
   have HRB:Hid (∀ k off,ra=some ⟨k,off,none⟩→w.heap.size<k):=Lib.hid (fun k off e=>Nat.lt_of_lt_of_le HW2.out (HR3.out.base k off e))
   have HAP:Hid ((∀ k off,oa=some ⟨k,off,none⟩→k<w2.heap.size)∧(∀ k off,ra=some ⟨k,off,none⟩→w2.heap.size≤k∧k<w3.heap.size)∧w.heap.size<w2.heap.size∧w2.heap.size≤w3.heap.size) :=
     Lib.hid ⟨HO2.out.lt,fun k off e=>⟨HR3.out.base k off e,HR3.out.lt k off e⟩,HW2.out,hb3.size⟩
   obtain ⟨M2,hM2⟩:∃ M2,M2=w2.heap.size:=⟨_,rfl⟩
   obtain ⟨LO,hLO⟩:∃ LO,LO=w3.heap.size:=⟨_,rfl⟩
   have HLO:=Lib.hid hLO
   rw [← hM2,← hLO] at HAP
   clear hM2 hLO
   clear HB1 HST1 HCF HO1 V1 hb3 hr3 hir f0 HB2 HST2 HCF2 HO2 HG2
   go_wp2_with fail
   refine (iclip_any ra c.r.length rc w3 HCAP.out.1 HCAP.out.2.1 HCAP.out.2.2).mono ?_;rintro e w4 ⟨rfl,rfl⟩
   have HMK:Hid (∀ w5,Touch (fun k=>k=w.heap.size) w3 w5→w5.heap[w.heap.size]?=some (.cells #[.slice ra c.r.length c.r.length,.slice none 0 0,.slice oa (ordL c.s.length D).length (ordL c.s.length D).length] 84 (0,0))→MkJ w bs bd bl x c D LO ra oa 0 w5∧w5.cell? ⟨bs,1,none⟩=some (.slice x.sa c.s.length x.sc)):=Lib.hid (fun w5 ht5 hg5=>by
     have hj:MkJ w bs bd bl x c D LO ra oa 0 w5 :=
       ⟨HB3.out.trans (ht5.below HB3.out.size (fun k hk e=>by omega)),HST3.out.put' HCF3.out ht5 (fun k hk=>by omega) HBS.out.1 HBS.out.2,HCF3.out.touch ht5 (fun k hk e=>by omega),⟨.slice none 0 0,hg5,LstV.nil _ _⟩,
         (HR3.out.touch' ht5 (fun k off e hk=>by have:=HRB.out k off e;omega)).low HW2.out,HO3.out.touch' ht5 (fun k off e hk=>by have:=HOB.out k off e;omega),by have:=HAP.out.2.2;omega,by rw [HLO.out];exact ht5.size⟩
     have f1:=hj.st.f.2.1
     rw [hj.st.rn.2] at f1
     exact ⟨hj,f1⟩)
   clear HB3 HST3 HCF3 HO3 HR3 HCAP HW2
   have t0:w3.cell? ⟨w.heap.size,0,none⟩=some (.slice none 0 0):=by rw [cell_of_block G3.out];rfl
   have tf0:w3.frozen? ⟨w.heap.size,0,none⟩=false:=blk_free G3.out
   obtain ⟨hj,f1⟩:=HMK.out (w3.setCell ⟨w.heap.size,0,none⟩ (.slice ra c.r.length c.r.length)) ((Touch.refl (fun k=>k=w.heap.size) w3).setCell _ _ (.inl rfl)) (by rw [heap_setCell_same _ _ 0 _ _ _ G3.out];rfl)
   have HJ:=Lib.hid hj
   clear hj G3 HMK
   go_wp2_with fail
   generalize w3.setCell ⟨w.heap.size,0,none⟩ (.slice ra c.r.length c.r.length)=w5 at HJ ⊢
   obtain ⟨N,hN⟩:∃ N,N=c.s.length:=⟨_,rfl⟩
   have HN:=Lib.hid hN
   clear hN
   go_loopw [33] (fun i wr => ∃ k:Nat,k≤c.s.length∧i=.int .i64 k∧Hid (MkJ w bs bd bl x c D LO ra oa k wr)) (fun i _=>N - (intOf i).toNat)
   case atStart=>exact ⟨0,Nat.zero_le _,rfl,HJ⟩
   case round =>
     clear HJ
     obtain ⟨k,hk,rfl,HJ⟩:=hrel
     by_cases hlt:k<c.s.length
     · have hlts:decide (k<c.s.length)=true:=decide_eq_true hlt
       go_wp2_with fail
       refine (record_any bs bd bl x c D k wr HJ.out.st (by omega) hr).mono ?_;rintro e w1 ⟨a,rfl,hb1,hn1⟩
       obtain ⟨⟨⟨sq,st,l⟩,ok⟩,hrr⟩:∃ r,rcD c.r.length D k=r:=⟨_,rfl⟩
       rw [hrr] at hn1 ⊢
       dsimp only at hn1 ⊢
       obtain ⟨v,hm,va,vc,vs,hv,ho,hvn⟩:=HJ.out.m
       subst hv
       rw [bidsK_length] at ho hm
       have HL:Hid ((rcD c.r.length D k).1.bid=l):=Lib.hid (by rw [hrr])
       have HB1:=Lib.hid hb1
       have HN1:=Lib.hid hn1
       have HM:=Lib.hid hm
       have HO:=Lib.hid ho
       have HVN:=Lib.hid hvn
       have m1:=below_heap hb1 hm (lt_of_heap hm)
       have HM1:=Lib.hid m1
       have c1:w1.cell? ⟨w.heap.size,1,none⟩=some (.slice va k vc):=by rw [cell_of_block m1];rfl
       have p1:=cell_alloc c1 (.cells #[.int .u32 (sq:Int),.bool st,.slice a l.length l.length] 60 (0,0))
       have p2:(w1.alloc (.cells #[.int .u32 (sq:Int),.bool st,.slice a l.length l.length] 60 (0,0))).cell? ⟨w1.heap.size,2,none⟩=some (.slice a l.length l.length):=by rw [cell_of_block (heap_new w1 _)];rfl
       have HAT:Hid (At ((w1.alloc (.cells #[.int .u32 (sq:Int),.bool st,.slice a l.length l.length] 60 (0,0))).alloc (.cells #[.slice a l.length l.length] 22 (0,0))) (some ⟨w1.heap.size+1,0,none⟩) [.slice a l.length l.length]):=Lib.hid (by
         have h:=At.one (w1.alloc (.cells #[.int .u32 (sq:Int),.bool st,.slice a l.length l.length] 60 (0,0))) (.slice a l.length l.length) 22
         rwa [show (w1.alloc (.cells #[.int .u32 (sq:Int),.bool st,.slice a l.length l.length] 60 (0,0))).heap.size=w1.heap.size+1 from by simp] at h)
       have HOW:Hid (((w1.alloc (.cells #[.int .u32 (sq:Int),.bool st,.slice a l.length l.length] 60 (0,0))).alloc (.cells #[.slice a l.length l.length] 22 (0,0))).ownsRow LO 22 1 (.slice va k vc) k vs):=Lib.hid (((owns_below HO.out HB1.out).alloc _).alloc _)
       have HSZ:Hid (LO≤((w1.alloc (.cells #[.int .u32 (sq:Int),.bool st,.slice a l.length l.length] 60 (0,0))).alloc (.cells #[.slice a l.length l.length] 22 (0,0))).heap.size):=Lib.hid (by have h1:=HB1.out.size;have h2:=HJ.out.bel.size;have h3:=lt_of_heap HM.out;have h4:=HJ.out.lo.2;simp;omega)
       clear hb1 hn1 hm ho hvn m1 hrr c1
       have hk1000:k≤1000:=by omega
       go_wp2_with (first
         | (at_builtin;refine wpList_append_any rowII rfl (.tmp 43) (.tmp 46) rfl LO (.slice va k vc) k vs rfl HOW.out (some ⟨w1.heap.size+1,0,none⟩) 1 1 [.slice a l.length l.length] rfl rfl HAT.out (one_cell _ rfl) (by unfold maxLen;omega) (by omega) HSZ.out ?_;intro b2 c2 w2 hown2 hg2 hat2
            obtain ⟨hj2,hm2⟩:=mk_step HJ.out HBS.out HRB.out HOB.out HM.out HO.out HVN.out HB1.out HN1.out HL.out hg2 hown2
            have HJ2:=Lib.hid hj2
            have y1:w2.cell? ⟨w.heap.size,1,none⟩=some (.slice va k vc):=(by rw [cell_of_block hm2];rfl)
            have yf1:w2.frozen? ⟨w.heap.size,1,none⟩=false:=blk_free hm2
            clear hj2 hm2 hown2 hg2 hat2)
         | fail)
       go_roundw
       case rel=>exact ⟨k+1,by omega,by go_num,HJ2⟩
       case measure=>have:=HN.out;simp [intOf];omega
     · have hkk:k=c.s.length:=by omega
       subst hkk
       obtain ⟨v,hm,hl⟩:=HJ.out.m
       obtain ⟨va,vc,vs0,hv,ho,hvn⟩:=hl
       subst hv
       have hLst:LstV LO wr (.slice va (bidsK c.r.length D c.s.length).length vc) (bidsK c.r.length D c.s.length):=⟨va,vc,vs0,rfl,ho,hvn⟩
       obtain ⟨vs,hII⟩:=hLst.isIIp
       rw [bidsK_length] at hm hII hLst
       have hII:=hII.imp (Q:=fun k=>w.heap.size+1≤k) (fun k hk=>Nat.le_trans HJ.out.lo.1 hk)
       have HMO:Hid (MkO (w.heap.size+1) wr ⟨ra,c.r.length,c.r.length,va,c.s.length,vc,vs,oa,(ordL c.s.length D).length,(ordL c.s.length D).length⟩ (mktC c D)) :=
         Lib.hid ⟨⟨rfl,rfl,rfl,rfl⟩,M2,LO,HAP.out.2.2.1,HAP.out.2.2.2,HJ.out.o,HAP.out.1,HJ.out.r.above (fun k off e=>(HAP.out.2.1 k off e).1),(fun k off e=>(HAP.out.2.1 k off e).2),hLst⟩
       have HMK:Hid (IsMk wr (fun k=>w.heap.size+1≤k) ⟨ra,c.r.length,c.r.length,va,c.s.length,vc,vs,oa,(ordL c.s.length D).length,(ordL c.s.length D).length⟩ (mktC c D)):=Lib.hid ⟨HJ.out.r.isIp,hII,HJ.out.o.isIp⟩
       have HM:=Lib.hid hm
       have HB:=Lib.hid HJ.out.bel
       have HCH:=Lib.hid (mcheck_any (fun k=>w.heap.size+1≤k) ⟨ra,c.r.length,c.r.length,va,c.s.length,vc,vs,oa,(ordL c.s.length D).length,(ordL c.s.length D).length⟩ (mktC c D) wr HMK.out (by show c.r.length≤_;omega))
       clear hII ho hvn hm HJ hLst
       go_wp2_with (first
         | (refine wpList_load_mid rfl 84 (.tmp 2) rfl w.heap.size 0 rfl [.slice ra c.r.length c.r.length,.slice va c.s.length vc,.slice oa (ordL c.s.length D).length (ordL c.s.length D).length] _ (rangeAt_row HM.out) Tryz.underlying84 rfl info_mkt ?_)
         | fail)
       refine HCH.out.mono ?_;rintro e w1 ⟨rfl,hb1⟩
       have HB1:=Lib.hid (HB.out.trans (hb1.mono HB.out.size))
       have HM1:=Lib.hid (below_heap hb1 HM.out (lt_of_heap HM.out))
       have HMK1:=Lib.hid (HMK.out.below hb1)
       have HMO1:=Lib.hid (HMO.out.below hb1)
       clear hb1 HCH HM HB HMK HMO
       cases hmb:mktB (mktC c D) with
       | false =>
         have HMB:=Lib.hid hmb
         clear hmb
         go_wp2_with (first
           | (refine wpList_store_whole rfl 84 (.tmp 2) (.tmp 53) rfl w.heap.size [.slice none 0 0,.slice none 0 0,.slice none 0 0] _ _ HM1.out rfl rfl rfl info_mkt (mkt_one _ _ _ _ _ _ _ _ _) ?_;intro w4 ht4 hg4)
           | fail)
         refine bodyPost_ret (results_cell_tmp rfl _ _ w.heap.size 0 rfl [.slice none 0 0,.slice none 0 0,.slice none 0 0] _ (rangeAt_row hg4) Tryz.underlying84 rfl info_mkt) rfl ?_
         exact ⟨.inr (.inl ⟨HOC.out,HMB.out,rfl⟩),HB1.out.trans (ht4.below HB1.out.size (fun k hk e=>by omega))⟩
       | true =>
         have HMB:=Lib.hid hmb
         clear hmb
         go_wp2_with (first
           | (refine wpList_load_mid rfl 84 (.tmp 2) rfl w.heap.size 0 rfl [.slice ra c.r.length c.r.length,.slice va c.s.length vc,.slice oa (ordL c.s.length D).length (ordL c.s.length D).length] _ (rangeAt_row HM1.out) Tryz.underlying84 rfl info_mkt ?_)
           | (refine wpList_store_whole rfl 84 (.tmp 2) (.tmp 54) rfl w.heap.size [.slice ra c.r.length c.r.length,.slice va c.s.length vc,.slice oa (ordL c.s.length D).length (ordL c.s.length D).length] _ _ HM1.out rfl rfl rfl info_mkt (mkt_one _ _ _ _ _ _ _ _ _) ?_;intro w4 ht4 hg4)
           | fail)
         refine bodyPost_ret (results_cell_tmp rfl _ _ w.heap.size 0 rfl [.slice ra c.r.length c.r.length,.slice va c.s.length vc,.slice oa (ordL c.s.length D).length (ordL c.s.length D).length] _ (rangeAt_row hg4) Tryz.underlying84 rfl info_mkt) rfl ?_
         refine ⟨.inr (.inr ⟨HOC.out,HMB.out,⟨ra,c.r.length,c.r.length,va,c.s.length,vc,vs,oa,(ordL c.s.length D).length,(ordL c.s.length D).length⟩,rfl,?_⟩),HB1.out.trans (ht4.below HB1.out.size (fun k hk e=>by omega))⟩
         exact ⟨(HMK1.out.touch ht4 (fun k hk e=>by omega)).imp (fun k hk=>by omega),(HMO1.out.touch ht4 (fun k hk e=>by omega)).low (by omega)⟩
set_option maxRecDepth 100000
theorem Part.touchP {κ:Kd} {S:Nat→Prop} {w w':World} {B:Nat} {bs:Value} {H:List Hl} (h:Part κ w B bs H) (ht:Touch S w w') (hs:∀ k,S k→¬ LS H k∧∀ cur t fz,w.heap[k]?=some (.cells cur t fz)→t≠κ.hd):Part κ w' B bs H:=by
 refine ⟨owns_touch h.row ht (fun k hk e => ?_),fun i hi=>(h.ok i hi).touch ht (fun g hg e => ?_),h.apart,h.num,h.few⟩
 · obtain ⟨cur,hc⟩:=owns_block h.row hk
   exact (hs k e).2 _ _ _ hc rfl
 · exact (hs g e).1 ⟨i,hi,hg⟩
theorem BkP.touchP {S:Nat→Prop} {w w':World} {B bk:Nat} {P:Nat→Prop} {c:Nat} (h:BkP w B bk P c) (ht:Touch S w w') (hs:∀ k,S k→¬ P k∧∀ cur t fz,w.heap[k]?=some (.cells cur t fz)→(∀ κ:Kd,t≠κ.hd)∧t≠56):BkP w' B bk P c:=by
 obtain ⟨N,bs,H,h1,h2,h3,h4,h5⟩:=h
 refine ⟨N,bs,H,⟨h1.le,ht.heap h1.book (fun e=>((hs bk e).2 _ _ _ h1.book).2 rfl),fun κ=>(h1.part κ).touchP ht (fun k hk=>⟨fun hl=>(hs k hk).1 (h5 κ k hl),fun cur t fz hc=>((hs k hk).2 cur t fz hc).1 κ⟩)⟩,h2,h3,h4,h5⟩
theorem hok_owns {κ:Kd} {w:World} {B B' n c:Nat} {xs:List Value} {a:Option Addr} (h:w.ownsRow B κ.el 1 (.slice a n c) n xs) (hB:B'≤B):HOk κ w B' ⟨a,n,c⟩:=by
 rcases h.2 with ⟨e,h0⟩ | ⟨g,cap,cur,e,hb,hg,h1,h2,h3,_⟩
 · obtain ⟨rfl,_,rfl⟩:=Value.slice.inj e
   exact ⟨[],.inl ⟨rfl,h0,rfl,rfl⟩,fun g e=>by cases e⟩
 · obtain ⟨rfl,_,rfl⟩:=Value.slice.inj e
   exact ⟨cur.toList,.inr ⟨g,rfl,⟨(0,0),by simpa using hg,.inl rfl⟩,h1,by rw [Array.length_toList,h3];simp,h2⟩,fun g' e=>by cases e;exact Nat.le_trans hB hb⟩
theorem HOk.clip {κ:Kd} {w:World} {B n c:Nat} {a:Option Addr} (h:HOk κ w B ⟨a,n,c⟩):HOk κ w B ⟨a,n,n⟩:=by
 obtain ⟨cur,s,hB⟩:=h
 refine ⟨cur,?_,hB⟩
 rcases s with ⟨h1,h2,h3,h4⟩ | ⟨g,h1,h2,h3,h4,h5⟩
 · exact .inl ⟨h1,h2,h2,h4⟩
 · exact .inr ⟨g,h1,h2,Nat.le_refl _,Nat.le_trans h3 h4,Nat.le_trans h3 h5⟩
theorem NwB.hok {w:World} {B B':Nat} {a:Option Addr} {l:List UInt8} (h:NwB B w a l) (hB:B'≤B):HOk .byte w B' ⟨a,l.length,l.length⟩:=by
 obtain ⟨c,h⟩:=h
 exact (hok_owns (κ:=.byte) h hB).clip
theorem NwI.hok {w:World} {B B':Nat} {a:Option Addr} {l:List Int} (h:NwI B w a l) (hB:B'≤B):HOk .int w B' ⟨a,l.length,l.length⟩:=by
 obtain ⟨c,h⟩:=h
 exact (hok_owns (κ:=.int) h hB).clip
def hdOf (v:Value):Hd:=match v with
 | .slice a n c=>⟨a,n,c⟩
 | _=>⟨none,0,0⟩
theorem hdOf_own {v:Value} {g:Nat} (h:(hdOf v).a=some ⟨g,0,none⟩):v.ownBlock=some g:=by
 cases v <;> simp [hdOf] at h
 subst h;rfl
theorem apart3 {vs:List Value} {v2 v3:Value} (ha:Asc vs) (h12:∀ (i:Nat) (x:Value) (k:Nat),vs[i]?=some x→x.ownBlock=some k→v2.ownBlock≠some k∧v3.ownBlock≠some k) (h23:∀ k,v2.ownBlock=some k→v3.ownBlock≠some k) (L:List Hd) (hL:L=vs.map hdOf ++ [hdOf v2,hdOf v3]) :
   ∀ i j (hi:i<L.length) (hj:j<L.length),i≠j→∀ g,L[i].a=some ⟨g,0,none⟩→L[j].a≠some ⟨g,0,none⟩:=by
 subst hL
 have hg:∀ (i:Nat) (hi:i<(vs.map hdOf ++ [hdOf v2,hdOf v3]).length) (g:Nat),(vs.map hdOf ++ [hdOf v2,hdOf v3])[i].a=some ⟨g,0,none⟩→(i<vs.length∧∃ x,vs[i]?=some x∧x.ownBlock=some g)∨(i=vs.length∧v2.ownBlock=some g)∨(i=vs.length+1∧v3.ownBlock=some g):=fun i hi g e=>by
   have hi':i<vs.length+2:=by simpa using hi
   by_cases h1:i<vs.length
   · rw [List.getElem_append_left (by simpa using h1),List.getElem_map] at e
     exact .inl ⟨h1,vs[i],List.getElem?_eq_getElem h1,hdOf_own e⟩
   · by_cases h2:i=vs.length
     · subst h2
       rw [List.getElem_append_right (by simp)] at e
       simp at e
       exact .inr (.inl ⟨rfl,hdOf_own e⟩)
     · obtain rfl:i=vs.length+1:=by omega
       rw [List.getElem_append_right (by simp)] at e
       simp at e
       exact .inr (.inr ⟨rfl,hdOf_own e⟩)
 intro i j hi hj hij g e e2
 rcases hg i hi g e with ⟨a1,x,a2,a3⟩ | ⟨a1,a3⟩ | ⟨a1,a3⟩ <;> rcases hg j hj g e2 with ⟨b1,y,b2,b3⟩ | ⟨b1,b3⟩ | ⟨b1,b3⟩
 · rcases Nat.lt_or_gt_of_ne hij with h | h
   · exact Nat.lt_irrefl _ (ha i j x y g g h a2 b2 a3 b3)
   · exact Nat.lt_irrefl _ (ha j i y x g g h b2 a2 b3 a3)
 · exact (h12 i x g a2 a3).1 b3
 · exact (h12 i x g a2 a3).2 b3
 · exact (h12 j y g b2 b3).1 a3
 · omega
 · exact h23 g a3 b3
 · exact (h12 j y g b2 b3).2 a3
 · exact h23 g b3 a3
 · omega
theorem CfO.ok {B B':Nat} {w:World} {y:StA} {c:StC} {P:Nat→Prop} (h:CfO B w y c) (hB:B'≤B) (hP:∀ k,P k→k<B) (h1:c.r.length≤100000000) (h2:c.s.length≤1000) (h3:∀ l ∈ c.s,l.length≤100000000) (h4:c.a.length≤100000000) (h5:c.u.length≤100000000) :
   ∃ x:CfgH,CfgOk w B' P x∧x.R.val=.slice y.ra y.rn y.rc∧x.SL.val=.slice y.sa y.sn y.sc∧x.A.val=.slice y.aa y.an y.ac∧x.U.val=.slice y.ua y.un y.uc∧x.S.length=c.s.length∧∀ k,x.blk k→B≤k:=by
 obtain ⟨⟨g,e0,o0⟩,m,m2,⟨a,cc,vs,e1,o1,hn,hlt,hrow⟩,hm1,hm2,⟨aa,e2,oa⟩,hbl,⟨ua,e3,ou⟩⟩:=h
 have hlen:vs.length=c.s.length:=hn.1
 have hv:∀ i (hi:i<vs.length),∃ a',vs[i]=.slice a' (c.s[i]'(by omega)).length (c.s[i]'(by omega)).length∧NwB B w a' (c.s[i]'(by omega)):=fun i hi=>by
   obtain ⟨a',q1,q2⟩:=hn.2.1 i (by omega)
   rw [List.getElem?_eq_getElem hi] at q1
   exact ⟨a',Option.some.inj q1,q2⟩
 have hge:∀ {l:List UInt8} {a:Option Addr} {D:Nat},NwB D w a l→∀ k,(Value.slice a l.length l.length).ownBlock=some k→D≤k:=fun {l a D} hh k hk=>by
   obtain ⟨cq,hh⟩:=hh
   cases a with
   | none=>cases hk
   | some ad=>exact owns_base hh k hk
 have hby:∀ z ∈ vs.map hdOf ++ [hdOf (.slice aa c.a.length c.a.length),hdOf (.slice ua c.u.length c.u.length)],HOk .byte w B' z∧z.n≤100000000∧∀ g,z.a=some ⟨g,0,none⟩→B≤g:=by
   intro z hz
   rcases List.mem_append.1 hz with hz | hz
   · obtain ⟨v,hv1,rfl⟩:=List.mem_map.1 hz
     obtain ⟨i,hi,rfl⟩:=List.getElem_of_mem hv1
     obtain ⟨a',q1,q2⟩:=hv i hi
     rw [q1]
     exact ⟨q2.hok hB,h3 _ (List.getElem_mem _),fun g e=>hge q2 g (hdOf_own e)⟩
   · simp at hz
     rcases hz with rfl | rfl
     · exact ⟨oa.hok (Nat.le_trans hB hm1),h4,fun g e=>Nat.le_trans hm1 (hge oa g (hdOf_own e))⟩
     · exact ⟨ou.hok (Nat.le_trans hB (Nat.le_trans hm1 hm2)),h5,fun g e=>Nat.le_trans (Nat.le_trans hm1 hm2) (hge ou g (hdOf_own e))⟩
 have hr:∀ k,(Hd.mk (some ⟨g,0,none⟩) c.r.length c.r.length).a=some ⟨k,0,none⟩→B≤k:=fun k e=>by
   cases e;exact owns_base (e0 ▸ o0) _ rfl
 have hs:∀ k,a=some ⟨k,0,none⟩→B≤k:=fun k e=>by
   subst e;exact owns_base (e1 ▸ o1) _ rfl
 refine ⟨⟨⟨some ⟨g,0,none⟩,c.r.length,c.r.length⟩,⟨a,c.s.length,cc⟩,vs.map hdOf,hdOf (.slice aa c.a.length c.a.length),hdOf (.slice ua c.u.length c.u.length)⟩,⟨?_,?_,?_,?_,?_,?_,?_,?_⟩,e0.symm,e1.symm,e2.symm,e3.symm,by simpa using hlen,?_⟩
 · rw [e0] at o0;exact hok_owns (κ:=.int) o0 hB
 · rw [e1] at o1;exact hok_owns (κ:=.bl) o1 hB
 · simpa using hlen.symm
 · intro i hi
   have hi':i<vs.length:=by simpa using hi
   rw [e1] at o1
   rcases o1.2 with ⟨_,h0⟩ | ⟨g',cap,cur,e',_,hg',_⟩
   · omega
   · obtain ⟨rfl,_,_⟩:=Value.slice.inj e'
     refine ⟨g',rfl,?_⟩
     obtain ⟨a',q1,q2⟩:=hv i hi'
     have:=cells_of_owns o1 i _ (List.getElem?_eq_getElem hi')
     rw [this]
     simp only [List.getElem_map]
     rw [q1];rfl
 · intro z hz
   obtain ⟨q1,q2,q3⟩:=hby z hz
   exact ⟨q1,q2,fun g e hp=>by have:=q3 g e;have:=hP g hp;omega⟩
 · exact ⟨h1,fun k e hp=>by have:=hr k e;have:=hP k hp;omega⟩
 · exact ⟨by simpa using (hlen ▸ h2),fun k e hp=>by have:=hs k e;have:=hP k hp;omega⟩
 · exact apart3 hn.2.2 (v2:=.slice aa c.a.length c.a.length) (v3:=.slice ua c.u.length c.u.length) (fun i x k q1 q2=>⟨fun q3=>by have:=hlt i x k q1 q2;have:=hge oa k q3;omega,fun q3=>by have:=hlt i x k q1 q2;have:=hge ou k q3;omega⟩) (fun k q1 q2=>by have:=hbl k (by rw [e2];exact q1);have:=hge ou k q2;omega) _ rfl
 · rintro k (hk | hk | ⟨z,hz,hk⟩)
   · exact hr k hk
   · exact hs k hk
   · exact (hby z hz).2.2 k hk
theorem MkO.ok {B B':Nat} {w:World} {y:MkA} {M:MkC} {P:Nat→Prop} (h:MkO B w y M) (hB:B'≤B) (hP:∀ k,P k→k<B) (h1:M.r.length≤100000000) (h2:M.b.length≤1000) (h3:∀ l ∈ M.b,l.length≤100000000) (h4:M.o.length≤100000000) :
   ∃ x:MktH,MktOk w B' P x∧x.R.val=.slice y.ra y.rn y.rc∧x.L.val=.slice y.ba y.bn y.bc∧x.O.val=.slice y.oa y.on y.oc∧x.S.length=M.b.length∧∀ k,x.blk k→B≤k:=by
 obtain ⟨⟨n1,n2,n3,n4⟩,m,lo,hm1,hm2,oo,obl,orr,rbl,a,cc,vs,e1,o1,hn⟩:=h
 have hlen:vs.length=M.b.length:=hn.1
 have hv:∀ i (hi:i<vs.length),∃ a',vs[i]=.slice a' (M.b[i]'(by omega)).length (M.b[i]'(by omega)).length∧NwI lo w a' (M.b[i]'(by omega)):=fun i hi=>by
   obtain ⟨a',q1,q2⟩:=hn.2.1 i (by omega)
   rw [List.getElem?_eq_getElem hi] at q1
   exact ⟨a',Option.some.inj q1,q2⟩
 have hge:∀ {l:List Int} {a:Option Addr} {D n c:Nat},NwI D w a l→∀ k,(Value.slice a n c).ownBlock=some k→D≤k∧∃ off,a=some ⟨k,off,none⟩:=fun {l a D n c} hh k hk=>by
   obtain ⟨cq,hh⟩:=hh
   rcases hh.2 with ⟨e,_⟩ | ⟨g,cap,cur,e,hb,_⟩
   · obtain ⟨rfl,_,_⟩:=Value.slice.inj e;cases hk
   · obtain ⟨rfl,_,_⟩:=Value.slice.inj e;cases hk;exact ⟨hb,0,rfl⟩
 have hlo:B≤lo:=Nat.le_trans hm1 hm2
 have hby:∀ z ∈ vs.map hdOf ++ [hdOf (.slice y.ra M.r.length M.r.length),hdOf (.slice y.oa M.o.length M.o.length)],HOk .int w B' z∧z.n≤100000000∧∀ g,z.a=some ⟨g,0,none⟩→B≤g:=by
   intro z hz
   rcases List.mem_append.1 hz with hz | hz
   · obtain ⟨v,hv1,rfl⟩:=List.mem_map.1 hz
     obtain ⟨i,hi,rfl⟩:=List.getElem_of_mem hv1
     obtain ⟨a',q1,q2⟩:=hv i hi
     rw [q1]
     exact ⟨q2.hok (Nat.le_trans hB hlo),h3 _ (List.getElem_mem _),fun g e=>Nat.le_trans hlo (hge q2 g (hdOf_own e)).1⟩
   · simp at hz
     rcases hz with rfl | rfl
     · exact ⟨orr.hok (Nat.le_trans hB hm1),h1,fun g e=>Nat.le_trans hm1 (hge orr g (hdOf_own e)).1⟩
     · exact ⟨oo.hok hB,h4,fun g e=>(hge oo g (hdOf_own e)).1⟩
 have hs:∀ k,a=some ⟨k,0,none⟩→B≤k:=fun k e=>by
   subst e;exact Nat.le_trans hlo (owns_base (e1 ▸ o1) _ rfl)
 refine ⟨⟨hdOf (.slice y.ra M.r.length M.r.length),⟨a,M.b.length,cc⟩,vs.map hdOf,hdOf (.slice y.oa M.o.length M.o.length)⟩,⟨?_,?_,?_,?_,?_,?_⟩,by rw [n1,n2];rfl,e1.symm,by rw [n3,n4];rfl,by simpa using hlen,?_⟩
 · rw [e1] at o1;exact hok_owns (κ:=.il) o1 (Nat.le_trans hB hlo)
 · simpa using hlen.symm
 · intro i hi
   have hi':i<vs.length:=by simpa using hi
   rw [e1] at o1
   rcases o1.2 with ⟨_,h0⟩ | ⟨g',cap,cur,e',_,hg',_⟩
   · omega
   · obtain ⟨rfl,_,_⟩:=Value.slice.inj e'
     refine ⟨g',rfl,?_⟩
     obtain ⟨a',q1,q2⟩:=hv i hi'
     have:=cells_of_owns o1 i _ (List.getElem?_eq_getElem hi')
     rw [this]
     simp only [List.getElem_map]
     rw [q1];rfl
 · intro z hz
   obtain ⟨q1,q2,q3⟩:=hby z hz
   exact ⟨q1,q2,fun g e hp=>by have:=q3 g e;have:=hP g hp;omega⟩
 · exact ⟨by simpa using (hlen ▸ h2),fun k e hp=>by have:=hs k e;have:=hP k hp;omega⟩
 · refine apart3 hn.2.2 (v2:=.slice y.ra M.r.length M.r.length) (v3:=.slice y.oa M.o.length M.o.length) (fun i x k q1 q2 => ?_) (fun k q1 q2 => ?_) _ rfl
   · have hi:i<vs.length:=(List.getElem?_eq_some_iff.1 q1).1
     obtain ⟨a',r1,r2⟩:=hv i hi
     rw [List.getElem?_eq_getElem hi,r1] at q1
     obtain rfl:=Option.some.inj q1
     have hk:=(hge r2 k q2).1
     exact ⟨fun q3=>by obtain ⟨_,off,e⟩:=hge orr k q3;have:=rbl k off e;omega,fun q3=>by obtain ⟨_,off,e⟩:=hge oo k q3;have:=obl k off e;omega⟩
   · obtain ⟨p1,_⟩:=hge orr k q1
     obtain ⟨_,off,e⟩:=hge oo k q2
     have:=obl k off e
     omega
 · rintro k (hk | ⟨z,hz,hk⟩)
   · exact hs k hk
   · exact (hby z hz).2.2 k hk
theorem diskNe {w:World} {bd bl:Nat} {D:Dsk} (h:IsDisk w bd bl D) {k:Nat} {cur:Array Value} {t:TypeId} {fz:Nat × Nat} (hk:w.heap[k]?=some (.cells cur t fz)) (h1:t≠96) (h2:t≠132):¬ (k=bd∨k=bl):=by
 rintro (rfl | rfl)
 · have:=h.cells;rw [hk] at this;exact h1 (Obj.cells.inj (Option.some.inj this)).2.1
 · have:=h.row;rw [hk] at this;exact h2 (Obj.cells.inj (Option.some.inj this)).2.1
theorem noRefD {w:World} {bd bl:Nat} {D:Dsk} (h:IsDisk w bd bl D):NoRef w (fun k=>k=bd∨k=bl):=fun k hk cur t fz hc=>by
 refine ⟨fun e=>diskNe h (k:=k) hc (by rw [e];decide) (by rw [e];decide) hk,fun e=>diskNe h (k:=k) hc (by rw [e];decide) (by rw [e];decide) hk,fun e=>diskNe h (k:=k) hc (by rw [e];decide) (by rw [e];decide) hk⟩
theorem otherD {w:World} {bd bl:Nat} {D:Dsk} (h:IsDisk w bd bl D):Other w (fun k=>k=bd∨k=bl):=fun k hk cur t fz hc =>
 ⟨fun κ=>⟨fun e=>diskNe h (k:=k) hc (by rw [e];cases κ <;> decide) (by rw [e];cases κ <;> decide) hk,fun e=>diskNe h (k:=k) hc (by rw [e];cases κ <;> decide) (by rw [e];cases κ <;> decide) hk⟩,fun e=>diskNe h (k:=k) hc (by rw [e];decide) (by rw [e];decide) hk⟩
theorem refTy {w:World} {B rd rl rc:Nat} {R:Dsk} (h:IsRef w B rd rl rc R) {k:Nat} (hk:k=rd∨k=rl) {cur:Array Value} {t:TypeId} {fz:Nat × Nat} (hc:w.heap[k]?=some (.cells cur t fz)):t=98∨t=24:=by
 rcases hk with rfl | rfl
 · have:=h.cells;rw [hc] at this;exact .inl (Obj.cells.inj (Option.some.inj this)).2.1
 · obtain ⟨gs,g1,g2,_⟩:=h.row
   obtain ⟨cur2,h2⟩:=owns_block g2 (k:=k) rfl
   rw [hc] at h2;exact .inr (Obj.cells.inj (Option.some.inj h2)).2.1
theorem refNe {w:World} {B rd rl rc:Nat} {R:Dsk} (h:IsRef w B rd rl rc R) {k:Nat} {cur:Array Value} {t:TypeId} {fz:Nat × Nat} (hk:w.heap[k]?=some (.cells cur t fz)) (h1:t≠98) (h2:t≠24):¬ (k=rd∨k=rl):=fun e=>by
 rcases refTy h e hk with e | e
 · exact h1 e
 · exact h2 e
theorem noRefK {w:World} {B:Nat}:NoRef w (BkS w B):=fun k hk cur t fz hc=>by
 rcases bkS_types hk hc with rfl | ⟨κ,rfl⟩
 · exact ⟨by decide,by decide,by decide⟩
 · cases κ <;> exact ⟨by decide,by decide,by decide⟩
theorem BkP.andTop {w:World} {B bk:Nat} {P:Nat→Prop} {c:Nat} (h:BkP w B bk P c):BkP w B bk (fun k=>P k∧k<w.heap.size) c:=by
 obtain ⟨N,bs,H,h1,h2,h3,h4,h5⟩:=h
 exact ⟨N,bs,H,h1,h2,h3,h4,fun κ k hk=>⟨h5 κ k hk,by obtain ⟨cur,hc,_⟩:=(h1.part κ).ls hk;exact lt_of_heap hc⟩⟩
def QP (w:World) (rd rl:Nat) (k:Nat):Prop:=k<w.heap.size∧¬ (k=rd∨k=rl)
structure QSt (W w:World) (bd bl rd rl rc bk c:Nat) (D R:Dsk):Prop where
 below:Below W.heap.size W w
 disk:IsDisk w bd bl D
 dge:W.heap.size≤bd∧W.heap.size≤bl
 ref:IsRef w W.heap.size rd rl rc R
 same:Same D R
 book:BkP w W.heap.size bk (QP w rd rl) c
theorem QP.up {w w':World} {rd rl k:Nat} (h:QP w rd rl k) (hs:w.heap.size≤w'.heap.size):QP w' rd rl k:=⟨Nat.lt_of_lt_of_le h.1 hs,h.2⟩
theorem QSt.after {W w w':World} {bd bl rd rl rc bk c:Nat} {D R:Dsk} (h:QSt W w bd bl rd rl rc bk c D R) (hb:Below w.heap.size w w'):QSt W w' bd bl rd rl rc bk c D R :=
 ⟨h.below.trans (hb.mono h.below.size),h.disk.touch (Touch.of_below (S:=fun _=>False) hb) id id,h.dge,h.ref.below hb,h.same,(h.book.below hb).mono (fun k hk=>hk.up hb.size) (Nat.le_refl _)⟩
theorem QSt.both {W w w1 w2:World} {bd bl rd rl rc bk c:Nat} {D R D' R':Dsk} (h:QSt W w bd bl rd rl rc bk c D R) (h1:Touch (fun k=>k=bd∨k=bl) w w1) (hd:IsDisk w1 bd bl D')
   (h2:Touch (fun k=>k=rd∨k=rl) w1 w2) (hr:IsRef w2 W.heap.size rd rl rc R') (hs:Same D' R'):QSt W w2 bd bl rd rl rc bk c D' R':=by
 have hr1:=h.ref.touch h1 (noRefD h.disk)
 have hb1:=(h.book.touch h1 (otherD h.disk)).mono (Q:=QP w1 rd rl) (fun k hk=>hk.up h1.size) (Nat.le_refl _)
 have hbw1:Below W.heap.size W w1:=h.below.trans (h1.below h.below.size (fun k hk e=>by have:=h.dge;omega))
 have hrl:=hr1.lt
 refine ⟨hbw1.trans (h2.below hbw1.size (fun k hk e=>by have:=hr1.le;omega)),hd.touch h2 ?_ ?_,h.dge,hr,hs,?_⟩
 · exact refNe hr1 hd.cells (by decide) (by decide)
 · exact refNe hr1 hd.row (by decide) (by decide)
 · refine (hb1.touchP h2 (fun k hk=>⟨fun hp=>hp.2 hk,fun cur t fz hc => ?_⟩)).mono (fun k hk=>hk.up h2.size) (Nat.le_refl _)
   rcases refTy hr1 hk hc with rfl | rfl
   · exact ⟨fun κ=>by cases κ <;> decide,by decide⟩
   · exact ⟨fun κ=>by cases κ <;> decide,by decide⟩
theorem QSt.kept {W w w':World} {bd bl rd rl rc bk c d:Nat} {D R:Dsk} {P:Nat→Prop} (h:QSt W w bd bl rd rl rc bk c D R) (ht:Touch (BkS w W.heap.size) w w') (hk:BkP w' W.heap.size bk P d) (hP:∀ k,P k→QP w rd rl k∨¬ (k=rd∨k=rl)):QSt W w' bd bl rd rl rc bk d D R:=by
 refine ⟨h.below.trans (ht.below h.below.size (fun k hk e=>by have:=e.1;omega)),h.disk.touch ht ?_ ?_,h.dge,h.ref.touch ht noRefK,h.same,hk.andTop.mono (fun k hk=>⟨hk.2,?_⟩) (Nat.le_refl _)⟩
 · exact bkS_not h.disk.cells (by decide) (fun κ=>by cases κ <;> decide)
 · exact bkS_not h.disk.row (by decide) (fun κ=>by cases κ <;> decide)
 · rcases hP k hk.1 with h1 | h1
   · exact h1.2
   · exact h1
theorem rc_fits {it:Nat} {D:Dsk} {i:Nat} (h:(rcD it D i).2=true):fitsC it (rcD it D i).1=true:=by
 unfold rcD recC at h ⊢
 split
 · rfl
 · rename_i h1
   rw [if_neg h1] at h
   cases hd:decR (D.get ((12*(2+i):Nat):Int)).2.1 with
   | none=>rw [hd] at h;cases h
   | some r =>
     obtain ⟨sq,how,l⟩:=r
     rw [hd] at h
     dsimp only at h ⊢
     split at h
     · rename_i h2
       rw [if_pos h2]
       first | exact h2.2 | (simp at h2 ⊢;exact h2.2)
     · cases h
theorem fits_bid {it:Nat} {x:StR} (h:fitsC it x=true):bidB (it:Int) x.bid=true∧decide (0<x.bid.length)=x.stands:=by
 unfold fitsC at h
 cases hs:x.stands with
 | true =>
   rw [hs,if_pos rfl] at h
   have h:=of_decide_eq_true h
   refine ⟨?_,decide_eq_true (by have:=h.1;have:=h.2.2.1;omega)⟩
   unfold bidB
   rw [okB_eq,decide_eq_true h,Bool.or_true]
 | false =>
   rw [hs,if_neg (by decide)] at h
   have hb:x.bid=[]:=by simpa using h
   rw [hb]
   exact ⟨rfl,rfl⟩
theorem set_all (bs bd bl:Nat) (x:StA) (c:StC) (D:Dsk) (who:Int) (sq:Nat) (st:Bool) (a:Option Addr) (n cap:Nat) (l:List Int) (k:Int) (w:World) (h:IsStore w bs bd bl x c D) (hI:IsI w a n cap l) (hsq:sq<4294967296) (hs:c.s.length≤1000) (hr:c.r.length≤1000000) (hk:D.fine k) (hk2:k≤1000000000000000) (hlt:∀ i,i<c.s.length→(D.get ((12*(2+i):Nat):Int)).1<4294967296) :
   Calls Tryz.prog 26 #[.pointer (some ⟨bs,0,none⟩),.int .i64 who,.agg #[.int .u32 sq,.bool st,.slice a n cap]] w fun e w' => e=.returned (.int .i64 (setD c.s.length c.r.length D who ⟨sq,st,l⟩).1)∧Touch (fun k=>k=bd∨k=bl) w w'∧IsDisk w' bd bl (setD c.s.length c.r.length D who ⟨sq,st,l⟩).2:=by
 by_cases hw:who<0∨(c.s.length:Int)≤who
 · rw [setD_bad hw]
   refine (set_bad bs bd bl x c D who sq st a n cap w h hw).mono ?_
   rintro e w' ⟨rfl,hb⟩
   exact ⟨rfl,Touch.of_below hb,h.disk.touch (Touch.of_below (S:=fun _=>False) hb) id id⟩
 · obtain ⟨i,rfl⟩:=Int.eq_ofNat_of_zero_le (show 0≤who by omega)
   exact set_ok bs bd bl x c D i sq st a n cap l k w h hI hsq (by omega) hs hr hk hk2 (hlt i (by omega))
def mktR (c:StC) (D:Dsk):MkC × Int:=if ordE c.s.length D≠0 then (⟨[],[],[]⟩,ordE c.s.length D) else if mktB (mktC c D)=true then (mktC c D,0) else (⟨[],[],[]⟩,4)
def MkA.zero:MkA:=⟨none,0,0,none,0,0,[],none,0,0⟩
theorem IsMk.zero (w:World) (P:Nat→Prop):IsMk w P MkA.zero ⟨[],[],[]⟩ :=
 ⟨⟨IsI.nil _,fun b off ha=>by cases ha⟩,⟨rfl,Nat.le_refl _,by decide,IIv.nil _ _,.inl rfl⟩,⟨IsI.nil _,fun b off ha=>by cases ha⟩⟩
theorem MkO.zero (B:Nat) (w:World):MkO B w MkA.zero ⟨[],[],[]⟩:=⟨⟨rfl,rfl,rfl,rfl⟩,B,B,Nat.le_refl _,Nat.le_refl _,NwI.nil _ _,(fun k off e=>by cases e),NwI.nil _ _,(fun k off e=>by cases e),LstV.nil _ _⟩
theorem MktQ.is {w w':World} {c:StC} {D:Dsk} {e:Ending} (h:MktQ w c D e w'):∃ x:MkA,e=.returned (.tuple #[.agg x.cells.toArray,.int .i64 (mktR c D).2])∧IsMk w' (fun k=>w.heap.size≤k) x (mktR c D).1∧MkO w.heap.size w' x (mktR c D).1:=by
 rcases h with ⟨h1,rfl⟩ | ⟨h1,h2,rfl⟩ | ⟨h1,h2,x,rfl,h3,h4⟩
 · have e1:mktR c D=(⟨[],[],[]⟩,ordE c.s.length D):=if_pos h1
   rw [e1];exact ⟨MkA.zero,rfl,IsMk.zero _ _,MkO.zero _ _⟩
 · have e1:mktR c D=(⟨[],[],[]⟩,4):=by unfold mktR;rw [if_neg (by omega),if_neg (by rw [h2];decide)]
   rw [e1];exact ⟨MkA.zero,rfl,IsMk.zero _ _,MkO.zero _ _⟩
 · have e1:mktR c D=(mktC c D,0):=by unfold mktR;rw [if_neg (by omega),if_pos h2]
   rw [e1];exact ⟨x,rfl,h3,h4⟩
theorem rc_bid (it:Nat) (D:Dsk) (i:Nat):bidB (it:Int) (rcD it D i).1.bid=true:=by
 cases h:(rcD it D i).2 with
 | true=>exact (fits_bid (rc_fits h)).1
 | false =>
   have hb:(rcD it D i).1.bid=[]:=by
     unfold rcD recC at h ⊢
     split
     · rfl
     · rename_i h1
       rw [if_neg h1] at h
       cases hd:decR (D.get ((12*(2+i):Nat):Int)).2.1 with
       | none=>rfl
       | some r =>
         obtain ⟨sq,how,l⟩:=r
         rw [hd] at h
         dsimp only at h ⊢
         split
         · rename_i h2
           rw [if_pos h2] at h;cases h
         · rfl
   rw [hb];rfl
theorem ph_ord {n:Nat} {D:Dsk} (h:ordE n D=0):ordC n (ordL n D)=true:=by
 have h2:(phD n D).1=2:=by
   unfold ordE at h
   split at h
   · assumption
   · cases h
 have e:ordL n D=(phD n D).2.1:=if_pos h2
 rw [e]
 unfold phD phaseC at h2 ⊢
 split at h2
 · cases h2
 · rename_i h1
   rw [if_neg h1]
   revert h2
   split
   · intro h2;cases h2
   · rename_i p l hd
     split
     · rename_i ht
       intro h2
       have hp:p=2:=h2
       subst hp
       unfold turnsC at ht
       rw [if_pos rfl] at ht
       exact ht
     · intro h2;cases h2
theorem mkt_may {c:StC} {D:Dsk} (hm:c.may) (h:ordE c.s.length D=0):mktB (mktC c D)=true:=by
 have e1:okB c.r c.r.length=true:=by rw [okB_eq];exact decide_eq_true hm.r
 unfold mktB mktC
 dsimp only
 rw [e1,bidsK_length,decide_eq_true hm.s.1,decide_eq_true hm.s.2,ph_ord h]
 simp only [Bool.true_and]
 rw [List.all_eq_true]
 intro b hb
 obtain ⟨i,hi,rfl⟩:=List.mem_map.1 hb
 exact rc_bid _ _ _
end Go.Proofs.YtgbikngicidbkaaGreatDoor
