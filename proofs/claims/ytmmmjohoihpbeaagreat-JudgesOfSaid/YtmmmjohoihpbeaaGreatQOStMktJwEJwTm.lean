/- The package stores: Market;slices.Clone and Clip at numbers;conditions: those typed. -/
import Derived.Test.YtmmmjohoihpbeaaGreatQOMChkJwAr
import Derived.Test.YtmmmjohoihpbeaaGreatQOGStGetGStTwJwTl
import Derived.Test.YtmmmjohoihpbeaaGreatQOStore1
import Derived.Test.YtmmmjohoihpbeaaGreatQOGStOrdGStRecJwAJwBJwGJwEq
import Derived.Test.YtmmmjohoihpbeaaGreatQOStSeq
import Derived.RangeFuncBox
import Derived.RangeFuncLeaves
import Derived.RangeFuncWrites
import Derived.Shelf.Abstract
import Derived.OwnWalkIn
import Derived.TacticsInMore
import Derived.LoopNIn
import Derived.LoopIn
namespace Go.Proofs.YtmmmjohoihpbeaaGreat
open Go.RowKit
set_option linter.unusedVariables false
set_option linter.unusedSimpArgs false
theorem infoII:(Tryz.prog.info? 22).map (fun i=>(i.zero,i.size,i.bytes))=some (some (.slice none 0 0),1,24):=by kernel_rfl
theorem rowII:RowTy Tryz.prog 23 22 1 24 (.slice none 0 0):=⟨Tryz.underlying23,infoII,rfl,by decide⟩
theorem IsI.at' {w:World} {a:Option Addr} {n c:Nat} {l:List Int} (h:IsI w a n c l):At w a (icells l):=by
 obtain ⟨h1,h2,h3,⟨h4,_⟩ | ⟨b,off,rfl,hlt,hc⟩⟩:=h
 · rw [h4];exact At.nil _ _
 · refine At.of_cells fun i hi => ?_
   have hi':i<l.length:=by simpa [icells] using hi
   rw [hc i hi'];simp [icells]
set_option maxHeartbeats 400000 in
theorem iclone_any (a:Option Addr) (n c:Nat) (l:List Int) (w:World) (h:IsI w a n c l) (hm:l.length≤17592186044416) :
   Calls Tryz.prog 57 #[.slice a n c] w fun e w' => ∃ a' c',e=.returned (.slice a' l.length c')∧Below w.heap.size w w'∧w'.ownsRow w.heap.size 3 1 (.slice a' l.length c') l.length (icells l):=by
 have hq:∀ (w:World) (a:Option Addr) (n c:Nat),(binOp .eql 22 (.slice a n c) (.slice none 0 0)).run Tryz.prog w=.ok (.bool a.isNone) w:=fun w a n c=>Lib.run_eql_slice_nil w _ _ a n c 0 0 Tryz.underlying22
 obtain rfl:=h.1
 cases a with
 | none =>
   have hnil:l=[]:=by
     obtain ⟨_,_,_,⟨h,_⟩ | ⟨_,_,h,_⟩⟩:=h
     · exact h
     · cases h
   subst hnil
   clear h
   go_enter Tryz.func57,Tryz.ntmps57
   go_wp2
   go_ret
   exact ⟨none,0,rfl,Below.refl _ _,World.ownsRow_nil _ _ _ _⟩
 | some x =>
   have hat:=(h.below ((Below.refl _ w).alloc (Nat.le_refl _) (.cells #[] 3))).at'
   have hone:∀ v ∈ icells l,v.oneCell'=true:=by intro v hv;simp [icells] at hv;obtain ⟨z,_,rfl⟩:=hv;rfl
   have hil:(icells l).length=l.length:=by simp [icells]
   clear h
   go_enter Tryz.func57,Tryz.ntmps57
   go_wp2_with (at_builtin;refine wpList_append_any rowInt rfl _ _ rfl w.heap.size _ 0 [] rfl (World.ownsRow_made w #[] 0 (Nat.le_refl _) (Nat.zero_le _) rfl) (some x) l.length c (icells l) rfl (by rw [hil];omega) hat hone (by unfold maxLen;omega) (by omega) (by simp) ?_;intro b2 c2 w2 hown2 hg2 hat2;simp only [Nat.zero_add,List.nil_append] at hown2 hat2)
   go_ret
   refine ⟨b2,c2,rfl,((Below.refl _ w).alloc (Nat.le_refl _) _).grown hg2 (by simp) (fun j hj => ?_),hown2⟩
   have hj':some w.heap.size=some j:=hj
   cases hj'
   exact Nat.le_refl _
set_option maxHeartbeats 400000 in
theorem iclip_any (a:Option Addr) (n c:Nat) (w:World) (hn:n≤c) (hc:c≤maxLen) (ha:a=none→c=0) :
   Calls Tryz.prog 69 #[.slice a n c] w fun e w' => e=.returned (.slice a n n)∧w=w':=by
 unfold maxLen at hc
 cases a with
 | none =>
   obtain rfl:=ha rfl
   obtain rfl:n=0:=by omega
   go_enter Tryz.func69,Tryz.ntmps69
   go_wp2
   go_ret
   exact ⟨rfl,rfl⟩
 | some x =>
   clear ha
   go_enter Tryz.func69,Tryz.ntmps69
   go_wp2
   go_ret
   exact ⟨rfl,rfl⟩
theorem owns_caps {w:World} {B e n:Nat} {a:Option Addr} {m c:Nat} {xs:List Value} (h:w.ownsRow B e 1 (.slice a m c) n xs):m≤c∧c≤maxLen∧(a=none→c=0):=by
 rcases h.2 with ⟨h,h0⟩ | ⟨g,cap,cur,h,_,_,hnc,hcm,_⟩
 · obtain ⟨h1,h2,h3⟩:=Value.slice.inj h
   exact ⟨by omega,by rw [h3];decide,fun _=>h3⟩
 · obtain ⟨h1,h2,h3⟩:=Value.slice.inj h
   subst h1 h2 h3
   exact ⟨hnc,hcm,fun h=>by cases h⟩
theorem IsIp.low {P:Nat→Prop} {w:World} {a:Option Addr} {n c:Nat} {l:List Int} (h:IsIp w P a n c l):IsIp w (fun k=>k<w.heap.size) a n c l:=⟨h.1,fun b off ha hl=>h.1.ltSize b off ha hl⟩
section
open Go.RowKit Go.Shelf
attribute [local go_sem] Oper.semAt_some
def edgR (i:Nat) (l:List Int):List (Fin 8 × Fin 8):=l.map fun z=>(Fin.ofNat 8 i,Fin.ofNat 8 z.toNat)
def edgK (g:List (List Int)) (k:Nat):List (Fin 8 × Fin 8):=(List.range k).flatMap fun i=>edgR i (g.getD i [])
theorem edgK_succ (g:List (List Int)) (k:Nat):edgK g (k+1)=edgK g k ++ edgR k (g.getD k []):=by simp [edgK,List.range_succ]
theorem edgR_length (i:Nat) (l:List Int):(edgR i l).length=l.length:=by simp [edgR]
theorem edgR_snoc (i:Nat) (l:List Int) (j:Nat) (h:j<l.length):edgR i (l.take (j+1))=edgR i (l.take j) ++ [(Fin.ofNat 8 i,Fin.ofNat 8 l[j].toNat)]:=by
 unfold edgR;rw [List.take_succ_eq_append_getElem h,List.map_append];rfl
theorem edgK_len {g:List (List Int)} {items:Nat} (h:GOk g items) (k:Nat):(edgK g k).length≤8*k:=by
 induction k with
 | zero=>simp [edgK]
 | succ k ih=>rw [edgK_succ,List.length_append,edgR_length];have:=(h.at k).len;have:=h.hi;omega
theorem edg_mem {g:List (List Int)} {items:Nat} (h:GOk g items) (i k:Fin 8):(i,k) ∈ edgK g g.length↔i.val<g.length∧(k.val:Int) ∈ g.getD i.val []:=by
 unfold edgK edgR
 rw [List.mem_flatMap]
 constructor
 · rintro ⟨j,hj,hm⟩
   have hj':=List.mem_range.1 hj
   obtain ⟨z,hz,e⟩:=List.mem_map.1 hm
   have hn:=h.hn
   have hi':=h.hi
   have hb:=(h.at j).2 z hz
   have e1:=congrArg (fun p:Fin 8 × Fin 8=>p.1.val) e
   have e2:=congrArg (fun p:Fin 8 × Fin 8=>p.2.val) e
   simp only [Fin.ofNat] at e1 e2
   rw [Nat.mod_eq_of_lt (by omega)] at e1 e2
   subst e1
   refine ⟨hj',?_⟩
   have:(k.val:Int)=z:=by omega
   rw [this];exact hz
 · rintro ⟨hi,hk⟩
   refine ⟨i.val,List.mem_range.2 hi,List.mem_map.2 ⟨_,hk,?_⟩⟩
   apply Prod.ext
   · apply Fin.ext;simp [Fin.ofNat]
   · apply Fin.ext;simp [Fin.ofNat]
set_option maxRecDepth 100000 in
set_option maxHeartbeats 4000000 in
theorem edges1_in (F:Fence) (n:Nat) (h8:F.fn 185) (hro:F.round=none) (hn:1≤n) (l Bs n₀:Nat) (a:Option Addr) (m cap:Nat) (g:List (List Int)) (items:Nat) (hg:GOk g items) (J Jx:List (Fin 8 × Fin 8)→World→Prop)
   (hY:∀ pre x W,J pre W→pre.length<64→YieldAt F (n - 1) Tryz.prog l #[.int .i64 (x.1.val:Int),.int .i64 (x.2.val:Int)] W fun e W' =>
     (e=.returned (.bool true)∧J (pre ++ [x]) W'∧Below n₀ W W')∨(e=.returned (.bool false)∧Jx (pre ++ [x]) W'))
   (w0:World) (hn₀:w0.heap.size=n₀) (hI:IsII w0 a m cap g) (W:World) (hW:Below n₀ w0 W) (hBs:W.cell? ⟨Bs,0,none⟩=some (.slice a m cap)) (h0:J [] W) :
   CallsIn F n Tryz.prog 185 #[.func (.yield l) #[] #[],.pointer (some ⟨Bs,0,none⟩)] W fun e W' => (∃ v,e=.returned v) ∧
     ((∃ ys,ys=edgK g g.length∧J ys W')∨(∃ pre,True∧Jx pre W')):=by
 obtain rfl:=hI.1
 have hlen:=hI.len
 have HG:=Lib.hid hg
 have h2:=hg.hn
 have HI:=Lib.hid hI
 have HY:=Lib.hid hY
 have HZ:=Lib.hid hn₀
 have HW:=Lib.hid hW
 have H0:=Lib.hid h0
 clear hg hI hY hn₀ hW h0
 refine callsIn_of_wp Tryz.func185 rfl h8 ?_ hro
 simp only [Tryz.ntmps185,List.size_toArray,List.length_cons,List.length_nil,Nat.reduceAdd,Nat.reduceSub,Array.replicate_succ,Array.replicate_zero,List.push_toArray,List.append_toArray,List.nil_append,List.cons_append]
 gi_wp2
 gi_loopw [9] (fun i wr => ∃ k:Nat,k≤g.length∧i=.int .i64 (k:Int)∧Hid (J (edgK g k) wr∧Below n₀ w0 wr)) (fun i _=>g.length - (intOf i).toNat)
 case atStart=>exact ⟨0,Nat.zero_le _,rfl,Lib.hid ⟨H0.out,HW.out⟩⟩
 case round =>
   obtain ⟨k,hk,rfl,HS⟩:=hrel
   by_cases hlt:k<g.length
   · obtain ⟨b,off,x,y,z,rfl,hblt,hcell,hIk⟩:=HI.out.at k hlt
     have ck:wr.cell? ⟨b,off+k,none⟩=some (.slice x y z):=(HS.out.2.cell (p:=⟨b,off+k,none⟩) (by have:=HZ.out;show b<n₀;omega)).trans hcell
     have hgk:g.getD k []=g[k]:=by simp [hlt]
     have HR:Hid (RisL g[k] items):=Lib.hid (HG.out.hl _ (List.getElem_mem hlt))
     have HSU:Hid (edgK g (k+1)=edgK g k ++ edgR k g[k]):=Lib.hid (by rw [edgK_succ,hgk])
     have HLN:Hid ((edgK g k).length≤8*k):=Lib.hid (edgK_len HG.out k)
     have HIK:=Lib.hid hIk
     clear hcell hgk hIk
     generalize hgen:g[k]=row at HR HSU HIK
     have hrl:=Nat.le_trans HR.out.len HG.out.hi
     have hyl:=HIK.out.1
     subst hyl
     clear hgen
     obtain ⟨wo,hwo⟩:∃ wo:World,wo=wr:=⟨_,rfl⟩
     have HWO:=Lib.hid hwo
     clear hwo
     gi_wp2
     gi_loopw [16] (fun i wq => ∃ j:Nat,j≤row.length∧i=.int .i64 (j:Int)∧Hid (J (edgK g k ++ edgR k (row.take j)) wq∧Below n₀ w0 wq)) (fun i _=>row.length - (intOf i).toNat)
     case atStart=>exact ⟨0,Nat.zero_le _,rfl,Lib.hid ⟨by simpa [edgR] using HS.out.1,HS.out.2⟩⟩
     case round =>
       clear HS
       obtain ⟨j,hj,rfl,HS⟩:=hrel
       by_cases hlt2:j<row.length
       · obtain ⟨b2,off2,rfl,hb2,hc2⟩:=HIK.out.at j hlt2
         have cj:wr.cell? ⟨b2,off2+j,none⟩=some (.int .i64 row[j]):=(HS.out.2.cell (p:=⟨b2,off2+j,none⟩) (by have:=HZ.out;show b2<n₀;omega)).trans hc2
         obtain ⟨q,hq⟩:=Int.eq_ofNat_of_zero_le (HR.out.at j hlt2).1
         have hq8:q<8:=by have:=(HR.out.at j hlt2).2;have:=HG.out.hi;omega
         have hsn:=edgR_snoc k row j hlt2
         rw [hq,Int.toNat_natCast] at hsn
         have e1:(Fin.ofNat 8 k).val=k:=by simp [Fin.ofNat];omega
         have e2:(Fin.ofNat 8 q).val=q:=by simp [Fin.ofNat];omega
         rw [hq] at cj
         obtain ⟨fn,tmps,assign,body,hy,hR⟩:=HY.out _ (Fin.ofNat 8 k,Fin.ofNat 8 q) wr HS.out.1 (by
           rw [List.length_append,edgR_length,List.length_take];have:=HLN.out;omega)
         dsimp only at hy hR
         rw [e1,e2] at hy
         have HSN:=Lib.hid hsn
         have HR2:=Lib.hid hR
         clear hsn hR e1 e2 hq hc2
         gi_wp2
         refine HR2.out.mono ?_
         rintro e W3 (⟨rfl,hJ3,hk3⟩ | ⟨rfl,hJx3⟩)
         · have HJ3:Hid (J (edgK g k ++ edgR k (row.take (j+1))) W3∧Below n₀ w0 W3):=Lib.hid ⟨by rw [HSN.out,← List.append_assoc];exact hJ3,HS.out.2.trans hk3⟩
           clear hJ3 hk3
           gi_wp2
           go_roundw
           case rel=>exact ⟨j+1,by omega,by go_num,HJ3⟩
           case measure=>simp [intOf];omega
         · gi_wp2
           refine bodyPost_ret (results_none rfl _ _ _) rfl ?_
           exact ⟨⟨_,rfl⟩,.inr ⟨_,trivial,hJx3⟩⟩
       · have hjj:j=row.length:=by omega
         subst hjj
         have HS2:Hid (J (edgK g (k+1)) wr∧Below n₀ w0 wr):=Lib.hid ⟨by rw [HSU.out];have:=HS.out.1;rwa [List.take_length] at this,HS.out.2⟩
         gi_wp2
         go_roundw
         case rel=>exact ⟨k+1,by omega,by go_num,HS2⟩
         case measure=>simp [intOf];omega
   · have hkk:k=g.length:=by omega
     subst hkk
     gi_wp2
     go_end0
     exact ⟨⟨_,rfl⟩,.inl ⟨_,rfl,HS.out.1⟩⟩
theorem edges_stops (F:Fence) (n:Nat) (h8:F.fn 185) (hro:F.round=none) (hn:1≤n) (Bs n₀:Nat) (a:Option Addr) (m cap:Nat) (g:List (List Int)) (items:Nat) (hg:GOk g items) (w0 w:World) (hn₀:w0.heap.size=n₀) (hI:IsII w0 a m cap g) (hb:Below n₀ w0 w)
   (hc:w.cell? ⟨Bs,0,none⟩=some (.slice a m cap)) :
   SeqStopsK F n Tryz.prog 185 #[.pointer (some ⟨Bs,0,none⟩)] (fun x:Fin 8 × Fin 8 => #[Value.int .i64 (x.1.val:Int),Value.int .i64 (x.2.val:Int)]) (Below n₀) (fun ys=>ys=edgK g g.length)
     (fun pre=>True) 64 w:=fun l J Jx W hW _ _ hY h0 =>
 edges1_in F n h8 hro hn l Bs n₀ a m cap g items hg J Jx hY w0 hn₀ hI W (hb.trans (hW.mono (by rw [← hn₀];exact (hn₀ ▸ hb).size))) (cell_later hW hc) h0
theorem edges_in (F:Fence) (n:Nat) (h6:F.fn 157) (hro:F.round=none) (a:Option Addr) (len cap:Nat) (w:World) :
   CallsIn F n Tryz.prog 157 #[.slice a len cap] w fun e w' => e=.returned (.func (.func 185) #[] #[.pointer (some ⟨w.heap.size,0,none⟩)])∧w'=w.alloc (.cells #[.slice a len cap] 23):=by
 refine callsIn_of_wp Tryz.func157 rfl h6 ?_ hro
 simp only [Tryz.ntmps157,List.size_toArray,List.length_cons,List.length_nil,Nat.reduceAdd,Nat.reduceSub,Array.replicate_succ,Array.replicate_zero,List.push_toArray,List.append_toArray,List.nil_append,List.cons_append]
 gi_wp2
 go_ret
 exact ⟨rfl,rfl⟩
end
set_option maxRecDepth 100000
theorem setM3 {w:World} {b:Nat} {u0 u1 u2 v0 v1 v2:Value} {T:TypeId} (h:w.heap[b]?=some (.cells #[u0,u1,u2] T (0,0))) :
   (((w.setCell ⟨b,0,none⟩ v0).setCell ⟨b,1,none⟩ v1).setCell ⟨b,2,none⟩ v2).heap[b]?=some (.cells #[v0,v1,v2] T (0,0))∧Touch (fun k=>k=b) w (((w.setCell ⟨b,0,none⟩ v0).setCell ⟨b,1,none⟩ v1).setCell ⟨b,2,none⟩ v2):=by
 have h0:(w.setCell ⟨b,0,none⟩ v0).heap[b]?=some (.cells #[v0,u1,u2] T (0,0)):=by rw [heap_setCell_same _ b 0 _ _ _ h];rfl
 have h1:((w.setCell ⟨b,0,none⟩ v0).setCell ⟨b,1,none⟩ v1).heap[b]?=some (.cells #[v0,v1,u2] T (0,0)):=by rw [heap_setCell_same _ b 1 _ _ _ h0];rfl
 exact ⟨by rw [heap_setCell_same _ b 2 _ _ _ h1];rfl,((Touch.setCell (Touch.refl (fun k=>k=b) w) ⟨b,0,none⟩ v0 (.inl rfl)).setCell ⟨b,1,none⟩ v1 (.inl rfl)).setCell ⟨b,2,none⟩ v2 (.inl rfl)⟩
theorem twinJ_ex (a:Option Addr) (m cap:Nat) (l:List Int) (w:World) (hm:l.length≤1000000000) (h:IsI w a m cap l) :
   Calls Tryz.prog 11 #[.slice a m cap] w fun e w' => ∃ g,e=.returned (.slice (some ⟨g,0,none⟩) l.length (l.length+1))∧Below w.heap.size w w'∧TwJ w' g l∧w.heap.size≤g :=
 (twinJ_any a m cap l w hm h).mono fun e w' ⟨he,hb,ho⟩ => ⟨_,he,hb,ho,Nat.le_refl _⟩
structure TwMk (w:World) (B gr gl:Nat) (gs:List Nat) (gz go:Nat) (m:MkC):Prop where
 r:TwJ w gr m.r
 b:TwK w B gl gs gz m.b
 o:TwJ w go m.o
 rB:B≤gr
 ro:gr<go
 lo:gl<go
 so:∀ i (hi:i<gs.length),gs[i]<go
theorem TwMk.below {w w':World} {B gr gl gz go:Nat} {gs:List Nat} {m:MkC} (h:TwMk w B gr gl gs gz go m) (hb:Below w.heap.size w w'):TwMk w' B gr gl gs gz go m :=
 ⟨below_heap hb h.r (lt_of_heap h.r),h.b.below hb,below_heap hb h.o (lt_of_heap h.o),h.rB,h.ro,h.lo,h.so⟩
structure SmMk (m:MkC):Prop where
 r:m.r.length≤1000000
 b:m.b.length≤1000000
 e:∀ l ∈ m.b,l.length≤1000000
 o:m.o.length≤1000000
set_option maxHeartbeats 8000000 in
theorem twinMk_any (x:MkA) (m:MkC) (w:World) (h:IsMk w (fun _=>True) x m) (hs:SmMk m) :
   Calls Tryz.prog 9 #[.agg x.cells.toArray] w fun e w' => ∃ gr gl gs gz go,e=.returned (.agg #[.slice (some ⟨gr,0,none⟩) m.r.length (m.r.length+1),.slice (some ⟨gl,0,none⟩) m.b.length (m.b.length+1),.slice (some ⟨go,0,none⟩) m.o.length (m.o.length+1)])∧Below w.heap.size w w'∧TwMk w' w.heap.size gr gl gs gz go m:=by
 obtain ⟨hs1,hs2,hs3,hs4⟩:=hs
 obtain ⟨ra,rn,rc,ba,bn,bc,bv,oa,on,oc⟩:=x
 have hr:=h.r.1
 have hbb:=h.b
 have ho:=h.o.1
 unfold MkA.cells
 dsimp only at hr hbb ho ⊢
 obtain rfl:=hr.1
 obtain rfl:=hbb.1
 obtain rfl:=ho.1
 clear hr hbb ho
 obtain ⟨hb0,m0,m1⟩:=alloc2_facts w (.cells #[.slice ra m.r.length rc,.slice ba m.b.length bc,.slice oa m.o.length oc] 25 (0,0)) (.cells #[.slice none 0 0,.slice none 0 0,.slice none 0 0] 25 (0,0))
 have HIw0:=Lib.hid (h.below hb0)
 have HBw0:=Lib.hid hb0
 have BXw0:=Lib.hid m0
 have RSw0:=Lib.hid m1
 clear h hb0
 go_enter Tryz.func9,Tryz.ntmps9
 go_wp2_with fail
 generalize ((w.alloc (.cells #[.slice ra m.r.length rc,.slice ba m.b.length bc,.slice oa m.o.length oc] 25)).alloc (.cells #[.slice none 0 0,.slice none 0 0,.slice none 0 0] 25))=w0 at m0 m1 HIw0 HBw0 BXw0 RSw0 ⊢
 have CF:Hid (∀ (W:World),W.heap[w.heap.size]?=some (.cells #[.slice ra m.r.length rc,.slice ba m.b.length bc,.slice oa m.o.length oc] 25 (0,0))→W.cell? ⟨w.heap.size,0,none⟩=some (.slice ra m.r.length rc)∧W.cell? ⟨w.heap.size,1,none⟩=some (.slice ba m.b.length bc)∧W.cell? ⟨w.heap.size,2,none⟩=some (.slice oa m.o.length oc)):=Lib.hid (fun W h=>by
   refine ⟨?_,?_,?_⟩ <;> (rw [cell_of_block h];rfl))
 obtain ⟨p0,p1,p2⟩:=CF.out w0 m0
 obtain ⟨d0,d1,d2⟩:=CF.out w0.drew m0
 have hd0:Hid (Below w0.heap.size w0 w0.drew):=Lib.hid (Below.refl _ _).drew
 have HSE:=Lib.hid hs3
 have HRX:Hid (∀ (W:World),Below w0.heap.size w0 W→IsI W ra m.r.length rc m.r∧IsIL W ba m.b.length bc m.b∧IsI W oa m.o.length oc m.o):=Lib.hid (fun W hb=>⟨(HIw0.out.below hb).r.1,(HIw0.out.below hb).b.isIL,(HIw0.out.below hb).o.1⟩)
 clear m0 m1 hs3
 go_region_held3 (fun W => W.cell? ⟨w.heap.size, 0, none⟩ = some (.slice ra m.r.length rc) ∧ W.cell? ⟨w.heap.size, 1, none⟩ = some (.slice ba m.b.length bc) ∧ W.cell? ⟨w.heap.size, 2, none⟩ = some (.slice oa m.o.length oc)) (first | with_reducible exact ⟨d0, d1, d2⟩ | with_reducible exact CFw1 | with_reducible exact CFw2 | with_reducible exact CFw3 | with_reducible exact CFw5) (first
       | (go_at_call 11;(with_reducible refine (twinJ_ex ra m.r.length rc m.r w0.drew (by omega) (HRX.out _ hd0.out).1).mono ?_);rintro e w1 ⟨gr,rfl,hbw1,hTr,hgr⟩
          have hboxw1:=below_heap ((Below.refl w0.heap.size w0).drew.trans hbw1) BXw0.out (lt_of_heap BXw0.out)
          have BXw1:=Lib.hid hboxw1
          have RSw1:=Lib.hid (below_heap ((Below.refl w0.heap.size w0).drew.trans hbw1) RSw0.out (lt_of_heap RSw0.out))
          have HIw1:=Lib.hid ((Below.refl w0.heap.size w0).drew.trans hbw1)
          have HBw1:=Lib.hid (HBw0.out.trans (((Below.refl w0.heap.size w0).drew.trans hbw1).mono HBw0.out.size))
          have CFw1:=CF.out w1 hboxw1
          clear hboxw1 hbw1)
       | (go_at_call 25;(with_reducible refine (twinK_any ba m.b.length bc m.b w1 (by omega) (fun l hl=>Nat.le_trans (HSE.out l hl) (by decide)) (HRX.out _ HIw1.out).2.1).mono ?_);rintro e w2 ⟨gl,gs,gz,rfl,hbw2,hTs⟩
          have hboxw2:=below_heap hbw2 BXw1.out (lt_of_heap BXw1.out)
          have BXw2:=Lib.hid hboxw2
          have RSw2:=Lib.hid (below_heap hbw2 RSw1.out (lt_of_heap RSw1.out))
          have HIw2:=Lib.hid (HIw1.out.trans (hbw2.mono HIw1.out.size))
          have HBw2:=Lib.hid (HBw1.out.trans (hbw2.mono HBw1.out.size))
          have HBsw2:=Lib.hid hbw2
          have CFw2:=CF.out w2 hboxw2
          clear hboxw2 hbw2)
       | (go_at_call 11;(with_reducible refine (twinJ_ex oa m.o.length oc m.o w2 (by omega) (HRX.out _ HIw2.out).2.2).mono ?_);rintro e w3 ⟨go,rfl,hbw3,hTo,hgo⟩
          have hboxw3:=below_heap hbw3 BXw2.out (lt_of_heap BXw2.out)
          have BXw3:=Lib.hid hboxw3
          have RSw3:=Lib.hid (below_heap hbw3 RSw2.out (lt_of_heap RSw2.out))
          have HBw3:=Lib.hid (HBw2.out.trans (hbw3.mono HBw2.out.size))
          have HBsw3:=Lib.hid hbw3
          have CFw3:=CF.out w3 hboxw3
          have hr4:=RSw3.out
          have r0:w3.cell? ⟨w.heap.size+1,0,none⟩=some (.slice none 0 0):=by rw [cell_of_block hr4];rfl
          have r1:w3.cell? ⟨w.heap.size+1,1,none⟩=some (.slice none 0 0):=by rw [cell_of_block hr4];rfl
          have r2:w3.cell? ⟨w.heap.size+1,2,none⟩=some (.slice none 0 0):=by rw [cell_of_block hr4];rfl
          have f0:w3.frozen? ⟨w.heap.size+1,0,none⟩=false:=blk_free hr4
          have f1:w3.frozen? ⟨w.heap.size+1,1,none⟩=false:=blk_free hr4
          have f2:w3.frozen? ⟨w.heap.size+1,2,none⟩=false:=blk_free hr4
          have t5:=setM3 (v0:=.slice (some ⟨gr,0,none⟩) m.r.length (m.r.length+1)) (v1:=.slice (some ⟨gl,0,none⟩) m.b.length (m.b.length+1)) (v2:=.slice (some ⟨go,0,none⟩) m.o.length (m.o.length+1)) hr4
          have CFw5:=CF.out _ (t5.2.heap BXw3.out (by omega))
          have T5:=Lib.hid t5
          clear t5 hr4 hboxw3 hbw3)
       | fail)
 have hfin:∀ (W:World),Touch (fun k=>k=w.heap.size+1) w3 W→Below w.heap.size w W∧TwMk W w.heap.size gr gl gs gz go m:=fun W t=>by
   have hB:Below w.heap.size w W:=HBw3.out.trans (t.below HBw3.out.size (fun k hk e=>by omega))
   have hne:∀ {g:Nat} {C:Array Value} {ty:TypeId},ty≠25→w3.heap[g]?=some (.cells C ty (0,0))→W.heap[g]?=some (.cells C ty (0,0)):=fun {g C ty} hty h=>t.heap h (fun e=>by
     rw [e,RSw3.out] at h
     exact hty (Obj.cells.inj (Option.some.inj h)).2.1.symm)
   have hb13:Below w1.heap.size w1 w3:=HBsw2.out.trans (HBsw3.out.mono HBsw2.out.size)
   have h1s:=HBw1.out.size
   have h2s:=HBw2.out.size
   have h0s:=HBw0.out.size
   have hs12:=HBsw2.out.size
   have htr:TwJ w3 gr m.r:=below_heap hb13 hTr (lt_of_heap hTr)
   have hts:TwK w3 w1.heap.size gl gs gz m.b:=hTs.below HBsw3.out
   have hts2:TwK W w1.heap.size gl gs gz m.b:=hts.touch t (fun k hk cur ty fz hc=>by
     rw [hk,RSw3.out] at hc
     rw [← (Obj.cells.inj (Option.some.inj hc)).2.1]
     exact ⟨by decide,by decide⟩)
   refine ⟨hB,hne (by decide) htr,⟨hts2.row,hts2.len,fun i h1 h2=>⟨(hts2.each i h1 h2).1,Nat.le_trans h1s (hts2.each i h1 h2).2⟩,hts2.nodup,hts2.z,Nat.le_trans h1s hts2.le⟩,hne (by decide) hTo,Nat.le_trans h0s hgr,?_,?_,fun i hi => ?_⟩
   · have:=lt_of_heap hTr
     omega
   · have:=lt_of_heap hTs.row
     omega
   · have hh:TwJ w2 gs[i] (m.b[i]'(by rw [← hTs.len];exact hi)):=(hTs.each i hi (by rw [← hTs.len];exact hi)).1
     have h2:=lt_of_heap hh
     omega
 have HFIN:=Lib.hid (hfin _ T5.out.2)
 have HG5:=Lib.hid T5.out.1
 clear hfin T5
 go_wp2_with fail
 refine bodyPost_ret (results_cell rfl _ _ (w.heap.size+1) 0 rfl [.slice (some ⟨gr,0,none⟩) m.r.length (m.r.length+1),.slice (some ⟨gl,0,none⟩) m.b.length (m.b.length+1),.slice (some ⟨go,0,none⟩) m.o.length (m.o.length+1)] _ (rangeAt_row HG5.out) Tryz.underlying25 rfl info_mkt) rfl ?_
 exact ⟨gr,gl,gs,gz,go,rfl,HFIN.out.1,HFIN.out.2⟩
end Go.Proofs.YtmmmjohoihpbeaaGreat
