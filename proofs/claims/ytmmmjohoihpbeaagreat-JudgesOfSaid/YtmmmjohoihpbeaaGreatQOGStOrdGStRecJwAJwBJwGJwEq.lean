/- The package stores: ordered,turns;conditions: those typed. -/
import Derived.Test.YtmmmjohoihpbeaaGreatQOStSeq
import Derived.Test.YtmmmjohoihpbeaaGreatQOStLay
import Derived.Test.YtmmmjohoihpbeaaGreatQOGStCGStCloStArg2
import Derived.Sort.OwnSortedInts
import Derived.Test.YtmmmjohoihpbeaaGreatQOGStNGStN2
import Derived.Test.YtmmmjohoihpbeaaGreatQOUp
namespace Go.Proofs.YtmmmjohoihpbeaaGreat
section
open Go.RowKit Go.Shelf Go.Sort
set_option linter.unusedVariables false
set_option linter.unusedSimpArgs false
def sortI (l:List Int):List Int:=l.mergeSort fun x y=>decide (x≤y)
theorem sortI_perm (l:List Int):(sortI l).Perm l:=List.mergeSort_perm l _
theorem sortI_length (l:List Int):(sortI l).length=l.length:=(sortI_perm l).length_eq
theorem sortI_pw (l:List Int):(sortI l).Pairwise (·≤·):=by
 have:=List.pairwise_mergeSort (le:=fun x y:Int=>decide (x≤y)) (fun a b c h1 h2=>by simp at *;omega) (fun a b=>by simp;omega) l
 exact this.imp (fun h=>by simpa using h)
theorem perm_of_all {α:Type} [DecidableEq α] (a:List α):∀ (l:List α),a.Nodup→(∀ x ∈ a,x ∈ l)→l.length≤a.length→l.Perm a:=by
 induction a with
 | nil=>intro l _ _ hl;have:l=[]:=List.eq_nil_of_length_eq_zero (by simpa using hl);rw [this]
 | cons x a ih =>
   intro l hn hs hl
   obtain ⟨hx,hn'⟩:=List.nodup_cons.1 hn
   have hxl:=hs x List.mem_cons_self
   refine (List.perm_cons_erase hxl).trans (List.Perm.cons x (ih (l.erase x) hn' (fun y hy => ?_) ?_))
   · have:y≠x:=fun e=>hx (e ▸ hy)
     exact (List.mem_erase_of_ne this).2 (hs y (List.mem_cons_of_mem _ hy))
   · rw [List.length_erase_of_mem hxl];simp at hl;omega
theorem allC_nodup (n:Nat):(allC n).Nodup:=by
 unfold allC
 refine List.Pairwise.map _ (fun a b hab e=>hab ?_) List.nodup_range
 exact Int.ofNat.inj e
theorem allC_get (n i:Nat) (h:i<n):(allC n)[i]'(by rw [allC_length];exact h)=(i:Int):=by simp [allC]
theorem allC_pw (n:Nat):(allC n).Pairwise (·≤·):=by
 rw [List.pairwise_iff_getElem]
 intro i j hi hj hij
 rw [allC_length] at hi hj
 rw [allC_get n i hi,allC_get n j hj]
 omega
theorem ordC_sorted {n:Nat} {l:List Int} (h:ordC n l=true):sortI l=allC n:=by
 unfold ordC at h
 rw [Bool.and_eq_true,decide_eq_true_eq,List.all_eq_true] at h
 obtain ⟨h1,h2⟩:=h
 have hp:l.Perm (allC n):=perm_of_all (allC n) l (allC_nodup n) (fun x hx=>by
   obtain ⟨i,hi,rfl⟩:=List.mem_map.1 hx
   exact of_decide_eq_true (h2 i hi)) (by rw [allC_length];omega)
 exact List.Perm.eq_of_pairwise (le:=fun a b:Int=>a≤b) (fun a b _ _ h1 h2=>by omega) (sortI_pw l) (allC_pw n) ((sortI_perm l).trans hp)
theorem sort_own (base:Nat) (v:Value) (l:List Int) (w:World) (h:w.ownsRow base 3 1 v l.length (icells l)) (hl:l.length≤17592186044416) :
   Calls Tryz.prog 96 #[v] w fun e w' => e=.returned (.tuple #[])∧w'.ownsRow base 3 1 v (sortI l).length (icells (sortI l))∧w.grownBy w' v.ownBlock:=by
 rcases h.2 with ⟨rfl,hz⟩ | ⟨gb,cap,cur,rfl,hbase,hgb,r1,r2,r3,r4⟩
 · have hl0:l=[]:=List.eq_nil_of_length_eq_zero (by simpa using hz)
   subst hl0
   exact (AnyM.slices_Sort_int_none sortA none 0 w).mono fun e w' ⟨he,hw⟩ => by
     subst hw
     exact ⟨he,by simpa [sortI] using h,⟨rfl,rfl,rfl,Nat.le_refl _,fun _ _ _=>rfl⟩⟩
 · have hH:Holds encZ w gb 0 l.toArray:=holds_of_block_i hgb (by simpa [icells] using r4)
   refine (AnyM.slices_Sort_int sortA gb 0 cap l w hH (Array.getElem?_eq_some_iff.1 hgb).1 (by omega)).mono ?_
   rintro e w' ⟨rfl,nn,os,rfl⟩
   have:=ownsRow_sorted_i (n:=nn) (os:=os) (ts:=sortI l) (sortI_length l) hbase hgb r1 r2 r3
   rw [← sortI_length l] at this
   refine ⟨rfl,?_,grownBy_sorted_i _⟩
   rw [sortI_length l] at this ⊢
   exact this
theorem svalues_any (a:Option Addr) (n c:Nat) (w:World):Calls Tryz.prog 81 #[.slice a n c] w fun e w' => e=.returned (.func (.func 97) #[] #[.pointer (some ⟨w.heap.size,0,none⟩)])∧w'=w.alloc (.cells #[.slice a n c] 22):=by
 go_enter Tryz.func81,Tryz.ntmps81
 go_wp2
 go_ret
 exact ⟨rfl,rfl⟩
theorem aseq_any (Bs:Nat) (a:Option Addr) (m cap:Nat) (zs:List Int) (hreach:zs.length≤17592186044416) (w:World) (hBs:Bs<w.heap.size) (hc:w.cell? ⟨Bs,0,none⟩=some (.slice a m cap)) (hI:IsI w a m cap zs) :
   Calls Tryz.prog 108 #[.slice none 0 0,.func (.func 97) #[] #[.pointer (some ⟨Bs,0,none⟩)]] w fun e W' => ∃ v,e=.returned v∧Below w.heap.size w W'∧W'.ownsRow w.heap.size 3 1 v zs.length (icells zs) :=
 (aseq_in ⟨fun _=>True,none,true,none⟩ 2 trivial trivial rfl (Nat.le_refl _) Bs a m cap zs hreach w hBs hc hI).calls (fun k d h=>by cases h)
theorem collect_any (Bs:Nat) (a:Option Addr) (m cap:Nat) (zs:List Int) (hreach:zs.length≤17592186044416) (w:World) (hBs:Bs<w.heap.size) (hc:w.cell? ⟨Bs,0,none⟩=some (.slice a m cap)) (hI:IsI w a m cap zs) :
   Calls Tryz.prog 95 #[.func (.func 97) #[] #[.pointer (some ⟨Bs,0,none⟩)]] w fun e W' => ∃ v,e=.returned v∧Below w.heap.size w W'∧W'.ownsRow w.heap.size 3 1 v zs.length (icells zs):=by
 have HA:=Lib.hid (aseq_any Bs a m cap zs hreach w hBs hc hI)
 clear hc hI
 go_enter Tryz.func95,Tryz.ntmps95
 go_wp2_with fail
 refine HA.out.mono ?_;rintro e w1 ⟨v,rfl,hb1,ho1⟩
 have H1:=Lib.hid hb1
 have H2:=Lib.hid ho1
 clear hb1 ho1
 go_wp2_with fail
 go_ret
 exact ⟨v,rfl,H1.out,H2.out⟩
theorem sorted_any (Bs:Nat) (a:Option Addr) (m cap:Nat) (zs:List Int) (hreach:zs.length≤17592186044416) (w:World) (hBs:Bs<w.heap.size) (hc:w.cell? ⟨Bs,0,none⟩=some (.slice a m cap)) (hI:IsI w a m cap zs) :
   Calls Tryz.prog 80 #[.func (.func 97) #[] #[.pointer (some ⟨Bs,0,none⟩)]] w fun e W' => ∃ v,e=.returned v∧Below w.heap.size w W'∧W'.ownsRow w.heap.size 3 1 v (sortI zs).length (icells (sortI zs)):=by
 have HA:=Lib.hid (collect_any Bs a m cap zs hreach w hBs hc hI)
 clear hc hI
 go_enter Tryz.func80,Tryz.ntmps80
 go_wp2_with fail
 refine HA.out.mono ?_;rintro e w1 ⟨v,rfl,hb1,ho1⟩
 have H1:=Lib.hid hb1
 have H2:=Lib.hid ho1
 clear hb1 ho1
 go_wp2_with fail
 refine (sort_own w.heap.size v zs w1 H2.out hreach).mono ?_;rintro e w2 ⟨rfl,ho2,hg2⟩
 have H3:=Lib.hid (H1.out.grown hg2 H1.out.size (fun j hj=>owns_base H2.out j hj))
 have H4:=Lib.hid ho2
 clear ho2 hg2
 go_wp2_with fail
 go_ret
 exact ⟨v,rfl,H3.out,H4.out⟩
/- The package stores: phase;conditions: those typed. -/
open Go.RowKit
set_option linter.unusedVariables false
set_option linter.unusedSimpArgs false
theorem alloc2_facts (w:World) (o1 o2:Obj):Below w.heap.size w ((w.alloc o1).alloc o2)∧((w.alloc o1).alloc o2).heap[w.heap.size]?=some o1∧((w.alloc o1).alloc o2).heap[w.heap.size+1]?=some o2:=by
 refine ⟨((Below.refl _ _).alloc (Nat.le_refl _) _).alloc (by simp) _,below_heap (B:=w.heap.size+1) ((Below.refl _ _).alloc (by simp) _) (heap_new w _) (by omega),?_⟩
 have:=heap_new (w.alloc o1) o2
 rwa [World.size_alloc] at this
theorem alloc3_facts (w:World) (o1 o2 o3:Obj):Below w.heap.size w (((w.alloc o1).alloc o2).alloc o3)∧(((w.alloc o1).alloc o2).alloc o3).heap[w.heap.size]?=some o1∧(((w.alloc o1).alloc o2).alloc o3).heap[w.heap.size+1]?=some o2∧(((w.alloc o1).alloc o2).alloc o3).heap[w.heap.size+1+1]?=some o3:=by
 obtain ⟨h1,h2,h3⟩:=alloc2_facts w o1 o2
 have hb:Below (w.heap.size+2) ((w.alloc o1).alloc o2) (((w.alloc o1).alloc o2).alloc o3):=(Below.refl _ _).alloc (by simp) _
 refine ⟨h1.alloc (by simp;omega) _,below_heap hb h2 (by omega),below_heap hb h3 (by omega),?_⟩
 have:=heap_new ((w.alloc o1).alloc o2) o3
 rwa [World.size_alloc,World.size_alloc] at this
/- The package stores: room,Phase,Order;conditions: those typed. -/
open Go.RowKit
set_option linter.unusedVariables false
set_option linter.unusedSimpArgs false
/- The package stores: Turn;conditions: those typed. -/
open Go.RowKit
set_option linter.unusedVariables false
set_option linter.unusedSimpArgs false
end
open Go.RowKit
set_option linter.unusedVariables false
set_option linter.unusedSimpArgs false
/- The package stores: Record;conditions: those typed. -/
/- The package stores: Set;conditions: those typed. -/
def fnL (n:Nat) (f:Nat→Int):List Value:=(List.range n).map fun i=>Value.int .i64 (f i)
def fnA (n:Nat) (f:Nat→Int):Array Value:=(fnL n f).toArray
def updF (f:Nat→Int) (k:Nat) (v:Int) (i:Nat):Int:=if i=k then v else f i
theorem fnL_length (n:Nat) (f:Nat→Int):(fnL n f).length=n:=by simp [fnL]
theorem fnA_size (n:Nat) (f:Nat→Int):(fnA n f).size=n:=by simp [fnA,fnL]
theorem fnA_get {n:Nat} (f:Nat→Int) {i:Nat} (h:i<n):(fnA n f)[i]?=some (.int .i64 (f i)):=by simp [fnA,fnL,h]
theorem fnL_one (n:Nat) (f:Nat→Int):∀ v ∈ fnL n f,v.oneCell'=true:=by
 intro v hv
 obtain ⟨i,_,rfl⟩:=List.mem_map.1 hv
 rfl
theorem fnA_congr {n:Nat} {f g:Nat→Int} (h:∀ i,i<n→f i=g i):fnA n f=fnA n g:=by
 unfold fnA fnL
 congr 1
 exact List.map_congr_left fun i hi=>by rw [h i (List.mem_range.1 hi)]
theorem fnA_set {n:Nat} (f:Nat→Int) {k:Nat} (h:k<n) (v:Int):(fnA n f).setIfInBounds k (.int .i64 v)=fnA n (updF f k v):=by
 apply Array.ext
 · simp [fnA,fnL]
 · intro i h1 h2
   have hi:i<n:=by simpa [fnA,fnL] using h1
   by_cases hik:k=i
   · subst hik
     simp [fnA,fnL,updF]
   · have:¬ i=k:=fun e=>hik e.symm
     simp [fnA,fnL,updF,hik,this]
theorem updF_same (f:Nat→Int) (k:Nat) (v:Int):updF f k v k=v:=if_pos rfl
theorem updF_ne (f:Nat→Int) {k i:Nat} (v:Int) (h:i≠k):updF f k v i=f i:=if_neg h
theorem fnA_zero (n:Nat):fnA n (fun _=>0)=Array.replicate n (.int .i64 0):=by
 apply Array.ext
 · simp [fnA,fnL]
 · intro i h1 h2
   simp [fnA,fnL]
def IsII (w:World) (a:Option Addr) (n c:Nat) (L:List (List Int)):Prop :=
 n=L.length∧L.length≤c∧c≤maxLen∧((L=[]∧(a=none→c=0))∨∃ b off,a=some ⟨b,off,none⟩∧b<w.heap.size∧∀ i (h:i<L.length),∃ x y z,w.cell? ⟨b,off+i,none⟩=some (.slice x y z)∧IsI w x y z L[i])
theorem IsII.below {w w':World} {a:Option Addr} {n c:Nat} {L:List (List Int)} (h:IsII w a n c L) (hb:Below w.heap.size w w'):IsII w' a n c L:=by
 obtain ⟨h1,h2,h3,h4 | ⟨b,off,rfl,hlt,hc⟩⟩:=h
 · exact ⟨h1,h2,h3,.inl h4⟩
 · refine ⟨h1,h2,h3,.inr ⟨b,off,rfl,Nat.lt_of_lt_of_le hlt hb.size,fun i hi => ?_⟩⟩
   obtain ⟨x,y,z,h5,h6⟩:=hc i hi
   exact ⟨x,y,z,(hb.cell (p:=⟨b,off+i,none⟩) hlt).trans h5,h6.below hb⟩
instance stbII (a:Option Addr) (n c:Nat) (L:List (List Int)):Stb (fun w=>IsII w a n c L):=⟨fun _ _ hb h=>h.below hb⟩
theorem IsII.at {w:World} {a:Option Addr} {n c:Nat} {L:List (List Int)} (h:IsII w a n c L) (i:Nat) (hi:i<L.length):∃ b off x y z,a=some ⟨b,off,none⟩∧b<w.heap.size∧w.cell? ⟨b,off+i,none⟩=some (.slice x y z)∧IsI w x y z L[i]:=by
 obtain ⟨h1,h2,h3,⟨rfl,_⟩ | ⟨b,off,rfl,hlt,hc⟩⟩:=h
 · simp at hi
 · obtain ⟨x,y,z,h5,h6⟩:=hc i hi
   exact ⟨b,off,x,y,z,rfl,hlt,h5,h6⟩
theorem IsI.at {w:World} {a:Option Addr} {n c:Nat} {l:List Int} (h:IsI w a n c l) (i:Nat) (hi:i<l.length):∃ b off,a=some ⟨b,off,none⟩∧b<w.heap.size∧w.cell? ⟨b,off+i,none⟩=some (.int .i64 l[i]):=by
 obtain ⟨h1,h2,h3,⟨rfl,_⟩ | ⟨b,off,rfl,hlt,hc⟩⟩:=h
 · simp at hi
 · exact ⟨b,off,rfl,hlt,hc i hi⟩
theorem IsI.len {w:World} {a:Option Addr} {n c:Nat} {l:List Int} (h:IsI w a n c l):l.length≤9223372036854775807:=by
 have:=h.2.1;have:=h.2.2.1;unfold maxLen at this;omega
theorem IsII.len {w:World} {a:Option Addr} {n c:Nat} {l:List (List Int)} (h:IsII w a n c l):l.length≤9223372036854775807:=by
 have:=h.2.1;have:=h.2.2.1;unfold maxLen at this;omega
set_option maxRecDepth 100000 in
set_option maxHeartbeats 4000000 in
theorem idxI_gen (g:Nat) (cap:Array Value) (p:Int→Bool) (a:Option Addr) (n c:Nat) (l:List Int) (w:World) (h:IsI w a n c l)
   (hcall:∀ (x:Value) W,(callFunc g (#[x] ++ cap)).run Tryz.prog W=.ok (.enter g (#[x] ++ cap)) W)
   (hp:∀ z ∈ l,∀ W,Below w.heap.size w W→Calls Tryz.prog g (#[.int .i64 z] ++ cap) W fun e W' => e=.returned (.bool (p z))∧Below W.heap.size W W') :
   Calls Tryz.prog 107 #[.slice a n c,.func (.func g) #[] cap] w fun e w' => (∃ i:Int,e=.returned (.int .i64 i)∧decide (0≤i)=l.any p)∧Below w.heap.size w w':=by
 have hm:=h.len
 obtain rfl:=h.1
 have HC:=Lib.hid h
 have HP:=Lib.hid hp
 have HK:=Lib.hid hcall
 clear h hp hcall
 obtain ⟨N,hN⟩:∃ N,N=l.length:=⟨_,rfl⟩
 have HN:=Lib.hid hN
 clear hN
 go_enter Tryz.func107,Tryz.ntmps107
 go_wp2_with fail
 go_loopw [8] (fun i wr => ∃ k:Nat,k≤l.length∧i=.int .i64 k∧Hid (Below w.heap.size w wr∧(l.take k).any p=false)) (fun i _=>N - (intOf i).toNat)
 case atStart=>exact ⟨0,Nat.zero_le _,rfl,Lib.hid ⟨Below.refl _ _,by simp⟩⟩
 case round =>
   obtain ⟨k,hk,rfl,HS⟩:=hrel
   by_cases hlt:k<l.length
   · obtain ⟨b,off,rfl,hblt,hcell⟩:=HC.out.at k hlt
     have ck:wr.cell? ⟨b,off+k,none⟩=some (.int .i64 l[k]):=(HS.out.1.cell (p:=⟨b,off+k,none⟩) hblt).trans hcell
     have HG:Hid (p l[k]=false→(l.take (k+1)).any p=false):=Lib.hid (fun e=>by rw [List.take_succ_eq_append_getElem hlt,List.any_append,HS.out.2];simp [e])
     have HT:Hid (p l[k]=true→l.any p=true):=Lib.hid (fun e=>List.any_eq_true.2 ⟨_,List.getElem_mem hlt,e⟩)
     have HQ:=Lib.hid (HP.out _ (List.getElem_mem hlt) wr HS.out.1)
     generalize l[k]=z at ck HG HT HQ
     clear hcell
     go_wp2_with fail
     rw [HK.out]
     go_wp2_with fail
     refine HQ.out.mono ?_;rintro e w1 ⟨rfl,hb1⟩
     have HB1:=Lib.hid (HS.out.1.trans (hb1.mono HS.out.1.size))
     clear hb1
     cases hq:p z with
     | false =>
       have HG2:=Lib.hid (HG.out hq)
       clear hq ck
       go_wp2_with fail
       go_roundw
       case rel=>exact ⟨k+1,by omega,by go_num,Lib.hid ⟨HB1.out,HG2.out⟩⟩
       case measure=>have:=HN.out;simp [intOf];omega
     | true =>
       have HT2:=Lib.hid (HT.out hq)
       clear hq ck
       go_wp2_with fail
       go_ret
       exact ⟨⟨k,rfl,by rw [HT2.out];simp⟩,HB1.out⟩
   · have hkk:k=l.length:=by omega
     subst hkk
     go_wp2_with fail
     go_ret
     have:=HS.out.2
     rw [List.take_length] at this
     exact ⟨⟨-1,rfl,by rw [this];rfl⟩,HS.out.1⟩
theorem conI_gen (g:Nat) (cap:Array Value) (p:Int→Bool) (a:Option Addr) (n c:Nat) (l:List Int) (w:World) (h:IsI w a n c l)
   (hcall:∀ (x:Value) W,(callFunc g (#[x] ++ cap)).run Tryz.prog W=.ok (.enter g (#[x] ++ cap)) W)
   (hp:∀ z ∈ l,∀ W,Below w.heap.size w W→Calls Tryz.prog g (#[.int .i64 z] ++ cap) W fun e W' => e=.returned (.bool (p z))∧Below W.heap.size W W') :
   Calls Tryz.prog 92 #[.slice a n c,.func (.func g) #[] cap] w fun e w' => e=.returned (.bool (l.any p))∧Below w.heap.size w w':=by
 go_enter Tryz.func92,Tryz.ntmps92
 go_wp2_with fail
 refine (idxI_gen g cap p a n c l w h hcall hp).mono ?_;rintro e w1 ⟨⟨i,rfl,hi⟩,hb1⟩
 have HI:=Lib.hid hi
 clear hi h hcall hp
 go_wp2_with fail
 go_ret
 exact ⟨by rw [← HI.out];rfl,hb1⟩
set_option maxRecDepth 100000 in
set_option maxHeartbeats 4000000 in
theorem idxII_gen (g:Nat) (cap:Array Value) (p:List Int→Bool) (a:Option Addr) (n c:Nat) (L:List (List Int)) (w:World) (h:IsII w a n c L)
   (hcall:∀ (x:Value) W,(callFunc g (#[x] ++ cap)).run Tryz.prog W=.ok (.enter g (#[x] ++ cap)) W)
   (hp:∀ z ∈ L,∀ W,Below w.heap.size w W→∀ x y q,IsI W x y q z→Calls Tryz.prog g (#[.slice x y q] ++ cap) W fun e W' => e=.returned (.bool (p z))∧Below W.heap.size W W') :
   Calls Tryz.prog 64 #[.slice a n c,.func (.func g) #[] cap] w fun e w' => (∃ i:Int,e=.returned (.int .i64 i)∧decide (0≤i)=L.any p)∧Below w.heap.size w w':=by
 have hm:=h.len
 obtain rfl:=h.1
 have HC:=Lib.hid h
 have HP:=Lib.hid hp
 have HK:=Lib.hid hcall
 clear h hp hcall
 obtain ⟨N,hN⟩:∃ N,N=L.length:=⟨_,rfl⟩
 have HN:=Lib.hid hN
 clear hN
 go_enter Tryz.func64,Tryz.ntmps64
 go_wp2_with fail
 go_loopw [8] (fun i wr => ∃ k:Nat,k≤L.length∧i=.int .i64 k∧Hid (Below w.heap.size w wr∧(L.take k).any p=false)) (fun i _=>N - (intOf i).toNat)
 case atStart=>exact ⟨0,Nat.zero_le _,rfl,Lib.hid ⟨Below.refl _ _,by simp⟩⟩
 case round =>
   obtain ⟨k,hk,rfl,HS⟩:=hrel
   by_cases hlt:k<L.length
   · obtain ⟨b,off,x,y,q,rfl,hblt,hcell,hI⟩:=HC.out.at k hlt
     have ck:wr.cell? ⟨b,off+k,none⟩=some (.slice x y q):=(HS.out.1.cell (p:=⟨b,off+k,none⟩) hblt).trans hcell
     have HG:Hid (p L[k]=false→(L.take (k+1)).any p=false):=Lib.hid (fun e=>by rw [List.take_succ_eq_append_getElem hlt,List.any_append,HS.out.2];simp [e])
     have HT:Hid (p L[k]=true→L.any p=true):=Lib.hid (fun e=>List.any_eq_true.2 ⟨_,List.getElem_mem hlt,e⟩)
     have HQ:=Lib.hid (HP.out _ (List.getElem_mem hlt) wr HS.out.1 x y q (hI.below HS.out.1))
     generalize L[k]=z at HG HT HQ
     clear hcell hI
     go_wp2_with fail
     rw [HK.out]
     go_wp2_with fail
     refine HQ.out.mono ?_;rintro e w1 ⟨rfl,hb1⟩
     have HB1:=Lib.hid (HS.out.1.trans (hb1.mono HS.out.1.size))
     clear hb1
     cases hq:p z with
     | false =>
       have HG2:=Lib.hid (HG.out hq)
       clear hq ck
       go_wp2_with fail
       go_roundw
       case rel=>exact ⟨k+1,by omega,by go_num,Lib.hid ⟨HB1.out,HG2.out⟩⟩
       case measure=>have:=HN.out;simp [intOf];omega
     | true =>
       have HT2:=Lib.hid (HT.out hq)
       clear hq ck
       go_wp2_with fail
       go_ret
       exact ⟨⟨k,rfl,by rw [HT2.out];simp⟩,HB1.out⟩
   · have hkk:k=L.length:=by omega
     subst hkk
     go_wp2_with fail
     go_ret
     have:=HS.out.2
     rw [List.take_length] at this
     exact ⟨⟨-1,rfl,by rw [this];rfl⟩,HS.out.1⟩
theorem conII_gen (g:Nat) (cap:Array Value) (p:List Int→Bool) (a:Option Addr) (n c:Nat) (L:List (List Int)) (w:World) (h:IsII w a n c L)
   (hcall:∀ (x:Value) W,(callFunc g (#[x] ++ cap)).run Tryz.prog W=.ok (.enter g (#[x] ++ cap)) W)
   (hp:∀ z ∈ L,∀ W,Below w.heap.size w W→∀ x y q,IsI W x y q z→Calls Tryz.prog g (#[.slice x y q] ++ cap) W fun e W' => e=.returned (.bool (p z))∧Below W.heap.size W W') :
   Calls Tryz.prog 44 #[.slice a n c,.func (.func g) #[] cap] w fun e w' => e=.returned (.bool (L.any p))∧Below w.heap.size w w':=by
 go_enter Tryz.func44,Tryz.ntmps44
 go_wp2_with fail
 refine (idxII_gen g cap p a n c L w h hcall hp).mono ?_;rintro e w1 ⟨⟨i,rfl,hi⟩,hb1⟩
 have HI:=Lib.hid hi
 clear hi h hcall hp
 go_wp2_with fail
 go_ret
 exact ⟨by rw [← HI.out];rfl,hb1⟩
set_option maxRecDepth 100000 in
set_option maxHeartbeats 4000000 in
theorem indexI_any (v:Int) (a:Option Addr) (n c:Nat) (l:List Int) (w:World) (h:IsI w a n c l) :
   Calls Tryz.prog 158 #[.slice a n c,.int .i64 v] w fun e w' => (∃ i:Int,e=.returned (.int .i64 i)∧decide (0≤i)=decide (v ∈ l))∧w=w':=by
 have hm:=h.len
 obtain rfl:=h.1
 have HC:=Lib.hid h
 clear h
 go_enter Tryz.func158,Tryz.ntmps158
 go_wp2_with fail
 go_loop [8] (fun i => ∃ k:Nat,k≤l.length∧i=.int .i64 k∧Hid (¬ v ∈ l.take k)) (fun i=>l.length - (intOf i).toNat)
 case atStart=>exact ⟨0,Nat.zero_le _,rfl,Lib.hid (by simp)⟩
 case round =>
   obtain ⟨k,hk,rfl,HS⟩:=hrel
   by_cases hlt:k<l.length
   · obtain ⟨b,off,rfl,hblt,ck⟩:=HC.out.at k hlt
     have HG:Hid (v≠l[k]→¬ v ∈ l.take (k+1)):=Lib.hid (fun e=>by rw [List.take_succ_eq_append_getElem hlt,List.mem_append];intro h;rcases h with h | h;exact HS.out h;exact e (List.mem_singleton.1 h))
     have HT:Hid (v=l[k]→v ∈ l):=Lib.hid (fun e=>by rw [e];exact List.getElem_mem hlt)
     generalize l[k]=z at ck HG HT
     by_cases hq:v=z
     · have HT2:=Lib.hid (HT.out hq)
       subst hq
       go_wp2_with fail
       go_ret
       exact ⟨⟨k,rfl,by simp [HT2.out]⟩,rfl⟩
     · have HG2:=Lib.hid (HG.out hq)
       have d1:(v == z)=false:=by rw [beq_eq_false_iff_ne];exact hq
       clear hq
       go_wp2_with fail
       go_round
       case rel=>exact ⟨k+1,by omega,by go_num,HG2⟩
       case measure=>simp [intOf];omega
   · have hkk:k=l.length:=by omega
     subst hkk
     go_wp2_with fail
     go_ret
     have:=HS.out
     rw [List.take_length] at this
     exact ⟨⟨-1,rfl,by simp [this]⟩,rfl⟩
theorem containsI_any (v:Int) (a:Option Addr) (n c:Nat) (l:List Int) (w:World) (h:IsI w a n c l) :
   Calls Tryz.prog 117 #[.slice a n c,.int .i64 v] w fun e w' => e=.returned (.bool (decide (v ∈ l)))∧w=w':=by
 go_enter Tryz.func117,Tryz.ntmps117
 go_wp2_with fail
 refine (indexI_any v a n c l w h).mono ?_;rintro e w1 ⟨⟨i,rfl,hi⟩,rfl⟩
 have HI:=Lib.hid hi
 clear hi h
 go_wp2_with fail
 go_ret
 exact ⟨by rw [← HI.out];rfl,rfl⟩
def RisL (l:List Int) (many:Int):Prop:=l.Pairwise (· < ·)∧∀ x ∈ l,0≤x∧x<many
theorem RisL.nil (many:Int):RisL [] many:=⟨List.Pairwise.nil,fun x h=>by cases h⟩
theorem RisL.at {l:List Int} {many:Int} (h:RisL l many) (i:Nat) (hi:i<l.length):0≤l[i]∧l[i]<many:=h.2 _ (List.getElem_mem hi)
theorem RisL.lt {l:List Int} {many:Int} (h:RisL l many) (i j:Nat) (hij:i<j) (hj:j<l.length):l[i]<l[j]:=List.pairwise_iff_getElem.1 h.1 i j (by omega) hj hij
theorem RisL.nodup {l:List Int} {many:Int} (h:RisL l many):l.Nodup:=h.1.imp (fun {a b} hab=>by omega)
theorem RisL.len {l:List Int} {many:Nat} (h:RisL l many):l.length≤many:=by
 have key:∀ (k:Nat) (hk:k<l.length),(k:Int)≤l[k]:=by
   intro k
   induction k with
   | zero=>intro hk;exact (h.at 0 hk).1
   | succ k ih=>intro hk;have h1:=ih (by omega);have h2:=h.lt k (k+1) (by omega) hk;omega
 rcases Nat.eq_zero_or_pos l.length with h0 | h0
 · omega
 · have h1:=key (l.length - 1) (by omega)
   have h2:=(h.at (l.length - 1) (by omega)).2
   omega
structure GOk (g:List (List Int)) (items:Nat):Prop where
 hi:items≤8
 hn:g.length≤8
 hl:∀ l ∈ g,RisL l items
theorem GOk.at {g:List (List Int)} {items:Nat} (h:GOk g items) (i:Nat):RisL (g.getD i []) items:=by
 by_cases hi:i<g.length
 · have:g.getD i []=g[i]:=by simp [hi]
   rw [this];exact h.hl _ (List.getElem_mem hi)
 · have:g.getD i []=[]:=by simp [List.getD,List.getElem?_eq_none (Nat.le_of_not_lt hi)]
   rw [this];exact RisL.nil _
set_option maxHeartbeats 4000000 in
theorem grises_ok (a:Option Addr) (n c:Nat) (l:List Int) (many:Int) (w:World) (h:IsI w a n c l) (hr:RisL l many) :
   Calls Tryz.prog 156 #[.slice a n c,.int .i64 many] w fun e w' => e=.returned (.bool true)∧w=w':=by
 have hm:=h.len
 obtain rfl:=h.1
 have HC:=Lib.hid h
 have HR:=Lib.hid hr
 clear h hr
 go_enter Tryz.func156,Tryz.ntmps156
 go_wp2_with fail
 go_loop [5,10] (fun q i => ∃ (k:Nat) (z:Int),k≤l.length∧i=.int .i64 k∧q=.int .i64 z∧Hid (∀ j (hj:j<l.length),k≤j→z<l[j])) (fun _ i=>l.length - (intOf i).toNat)
 case atStart=>exact ⟨0,-1,Nat.zero_le _,rfl,rfl,Lib.hid (fun j hj _=>by have:=(HR.out.at j hj).1;omega)⟩
 case round =>
   obtain ⟨k,z,hk,rfl,rfl,HS⟩:=hrel
   by_cases hlt:k<l.length
   · obtain ⟨b,off,rfl,hblt,ck⟩:=HC.out.at k hlt
     have h1:=HS.out k hlt (Nat.le_refl _)
     have h2:=(HR.out.at k hlt).2
     have HN:Hid (∀ j (hj:j<l.length),k+1≤j→l[k]<l[j]):=Lib.hid (fun j hj hkj=>HR.out.lt k j (by omega) hj)
     generalize l[k]=y at ck h1 h2 HN
     have d1:decide (y≤z)=false:=decide_eq_false (by omega)
     have d2:decide (many≤y)=false:=decide_eq_false (by omega)
     clear h1 h2
     go_wp2_with fail
     go_round
     case rel=>exact ⟨k+1,y,by omega,by go_num,rfl,HN⟩
     case measure=>simp [intOf];omega
   · have hkk:k=l.length:=by omega
     subst hkk
     go_wp2_with fail
     go_ret
     exact ⟨rfl,rfl⟩
theorem gcheck1_ok (bx:Nat) (items:Int) (a:Option Addr) (n c:Nat) (l:List Int) (w:World) (hx:w.cell? ⟨bx,0,none⟩=some (.int .i64 items)) (h:IsI w a n c l) (hr:RisL l items) :
   Calls Tryz.prog 184 #[.slice a n c,.pointer (some ⟨bx,0,none⟩)] w fun e w' => e=.returned (.bool false)∧Below w.heap.size w w':=by
 have HI:=Lib.hid h
 have HR:=Lib.hid hr
 clear h hr
 go_enter Tryz.func184,Tryz.ntmps184
 go_wp2_with fail
 refine (grises_ok a n c l items w HI.out HR.out).mono ?_;rintro e w1 ⟨rfl,rfl⟩
 go_wp2_with fail
 go_ret
 exact ⟨rfl,Below.refl _ _⟩
set_option maxRecDepth 100000 in
set_option maxHeartbeats 4000000 in
theorem gcheck_ok (a:Option Addr) (n c:Nat) (g:List (List Int)) (items:Nat) (w:World) (h:IsII w a n c g) (hg:GOk g items) :
   Calls Tryz.prog 155 #[.slice a n c,.int .i64 items] w fun e w' => e=.returned (.bool true)∧Below w.heap.size w w':=by
 obtain rfl:=h.1
 have hb0:Below w.heap.size w (w.alloc (.cells #[.int .i64 (items:Int)] 3 (0,0))):=(Below.refl _ _).alloc (Nat.le_refl _) _
 have hv:=heap_new w (.cells #[.int .i64 (items:Int)] 3 (0,0))
 have HI:=Lib.hid (h.below hb0)
 have HG:=Lib.hid hg
 have h1:=hg.hi
 have h2:=hg.hn
 clear h hg
 have d1:decide ((0:Int)≤(items:Int))=true:=decide_eq_true (by omega)
 have d2:decide ((items:Int)≤8)=true:=decide_eq_true (by omega)
 have d3:decide ((g.length:Int)≤8)=true:=decide_eq_true (by omega)
 have d4:decide (items≤8)=true:=decide_eq_true h1
 have d5:decide (g.length≤8)=true:=decide_eq_true h2
 go_enter Tryz.func155,Tryz.ntmps155
 go_wp2_with fail
 generalize w.alloc (.cells #[.int .i64 (items:Int)] 3 (0,0))=W at hb0 hv HI ⊢
 have c0:W.cell? ⟨w.heap.size,0,none⟩=some (.int .i64 (items:Int)):=by rw [cell_of_block hv];rfl
 have HB:=Lib.hid hb0
 have HV:=Lib.hid hv
 clear hb0 hv
 go_wp2_with fail
 refine (conII_gen 184 #[.pointer (some ⟨w.heap.size,0,none⟩)] (fun _=>false) a g.length c g W HI.out (fun x W' => (enters_of Tryz.func184 (by kernel_rfl) rfl) _ _) (fun z hz W' hW' x y q hI => ?_)).mono ?_
 · exact gcheck1_ok w.heap.size items x y q z W' (cell_later hW' c0) hI (HG.out.hl z hz)
 · rintro e w1 ⟨rfl,hb1⟩
   have HA:Hid (g.any (fun _=>false)=false):=Lib.hid (by simp)
   have HB1:=Lib.hid (HB.out.trans (hb1.mono HB.out.size))
   clear hb1 c0
   rw [HA.out]
   go_wp2_with fail
   go_ret
   exact ⟨rfl,HB1.out⟩
def manyL (l:List Int):Nat:=(l.filter (· != -1)).length
theorem manyL_le (l:List Int):manyL l≤l.length:=List.length_filter_le _ _
set_option maxHeartbeats 4000000 in
theorem gmany_any (a:Option Addr) (n c:Nat) (l:List Int) (w:World) (h:IsI w a n c l) :
   Calls Tryz.prog 154 #[.slice a n c] w fun e w' => e=.returned (.int .i64 (manyL l))∧w=w':=by
 have hm:=h.len
 obtain rfl:=h.1
 have HC:=Lib.hid h
 clear h
 go_enter Tryz.func154,Tryz.ntmps154
 go_wp2_with fail
 go_loop [2,7] (fun q i => ∃ k:Nat,k≤l.length∧i=.int .i64 k∧q=.int .i64 (manyL (l.take k))) (fun _ i=>l.length - (intOf i).toNat)
 case atStart=>exact ⟨0,Nat.zero_le _,rfl,rfl⟩
 case round =>
   obtain ⟨k,hk,rfl,rfl⟩:=hrel
   by_cases hlt:k<l.length
   · obtain ⟨b,off,rfl,hblt,ck⟩:=HC.out.at k hlt
     have hle:manyL (l.take k)≤k:=Nat.le_trans (manyL_le _) (by simp;omega)
     have HN:Hid (manyL (l.take (k+1))=manyL (l.take k)+if l[k] != -1 then 1 else 0):=Lib.hid (by
       unfold manyL
       rw [List.take_succ_eq_append_getElem hlt,List.filter_append,List.length_append,List.filter_cons]
       split <;> simp)
     generalize l[k]=y at ck HN
     cases hq:(y != -1) with
     | true =>
       rw [hq] at HN
       go_wp2_with fail
       go_round
       case rel=>exact ⟨k+1,by omega,by go_num,by rw [HN.out];go_num⟩
       case measure=>simp [intOf];omega
     | false =>
       rw [hq] at HN
       go_wp2_with fail
       go_round
       case rel=>exact ⟨k+1,by omega,by go_num,by rw [HN.out];rfl⟩
       case measure=>simp [intOf];omega
   · have hkk:k=l.length:=by omega
     subst hkk
     go_wp2_with fail
     go_ret
     exact ⟨rfl,rfl⟩
section
open Go.RowKit Go.Shelf
set_option maxRecDepth 100000 in
set_option maxHeartbeats 4000000 in
theorem eqI_any (a b:Option Addr) (n m c d:Nat) (l k:List Int) (w:World) (hl:IsI w a n c l) (hk:IsI w b m d k) :
   Calls Tryz.prog 59 #[.slice a n c,.slice b m d] w fun e w' => e=.returned (.bool (decide (l=k)))∧∃ j,w'=w.drewN j:=by
 have hm:=hl.len
 obtain rfl:=hl.1
 obtain rfl:=hk.1
 have HL:=Lib.hid hl
 have HK:=Lib.hid hk
 clear hl hk
 go_enter Tryz.func59,Tryz.ntmps59
 by_cases hlk:l.length=k.length
 case neg =>
   have d1:((l.length:Int) != (k.length:Int))=true:=by rw [bne_iff_ne];omega
   have HQ:Hid (decide (l=k)=false):=Lib.hid (decide_eq_false (fun e=>hlk (by rw [e])))
   clear hlk
   go_wp2_with fail
   go_ret
   exact ⟨by rw [HQ.out];rfl,0,rfl⟩
 case pos =>
   have HLK:=Lib.hid hlk
   have d1:((l.length:Int) != (k.length:Int))=false:=by rw [bne_eq_false_iff_eq];omega
   clear hlk
   obtain ⟨N,hN⟩:∃ N,N=l.length:=⟨_,rfl⟩
   have HN:=Lib.hid hN
   clear hN
   go_wp2_with fail
   clear d1
   go_loopw [13] (fun i wr => ∃ q j:Nat,q≤l.length∧i=.int .i64 (q:Int)∧wr=w.drewN j∧l.take q=k.take q) (fun i _=>N - (intOf i).toNat)
   case atStart=>exact ⟨0,0,Nat.zero_le _,rfl,rfl,rfl⟩
   case round =>
     obtain ⟨q,j,hq,rfl,rfl,hs⟩:=hrel
     have HS:=Lib.hid hs
     clear hs
     by_cases hlt:q<l.length
     · have hkm:q<k.length:=by rw [← HLK.out];exact hlt
       obtain ⟨b1,o1,rfl,_,h1⟩:=HL.out.at q hlt
       obtain ⟨b2,o2,rfl,_,h2⟩:=HK.out.at q hkm
       have HST:Hid (l[q]=k[q]→l.take (q+1)=k.take (q+1)):=Lib.hid (fun e=>by rw [List.take_succ_eq_append_getElem hlt,List.take_succ_eq_append_getElem hkm,HS.out,e])
       have HNE:Hid (l[q]≠k[q]→decide (l=k)=false):=Lib.hid (fun h=>decide_eq_false (fun e=>h (by subst e;rfl)))
       generalize l[q]=x at h1 HST HNE
       generalize k[q]=y at h2 HST HNE
       by_cases he:x=y
       · have hn:(x != y)=false:=by rw [bne_eq_false_iff_eq];exact he
         have HE:=Lib.hid (HST.out he)
         clear he
         go_wp2_with fail
         go_quiet (fail)
         go_wp2_with fail
         go_roundw
         case rel=>exact ⟨q+1,_,by omega,by go_num,rfl,HE.out⟩
         case measure=>have:=HN.out;simp [intOf];omega
       · have hn:(x != y)=true:=by rw [bne_iff_ne];exact he
         have HE:=Lib.hid (HNE.out he)
         clear he
         go_wp2_with fail
         go_quiet (fail)
         go_wp2_with fail
         go_ret
         exact ⟨by rw [HE.out];rfl,j+nq,by simp⟩
     · have hqq:q=l.length:=by omega
       subst hqq
       have HQ:Hid (decide (l=k)=true):=Lib.hid (decide_eq_true (by
         have h:=HS.out
         rw [List.take_length,HLK.out,List.take_length] at h
         exact h))
       go_wp2_with fail
       go_ret
       exact ⟨by rw [HQ.out];rfl,_,rfl⟩
def IsF (w:World) (b:Nat) (vs:List Value):Prop:=∀ i (h:i<vs.length),w.cell? ⟨b,i,none⟩=some vs[i]
set_option maxRecDepth 100000 in
set_option maxHeartbeats 4000000 in
theorem idxF_gen (g:Nat) (b:Nat) (vs:List Value) (p:Nat→Bool) (w:World) (hlt:b<w.heap.size) (h:IsF w b vs) (hm:vs.length≤1000)
   (hcall:∀ (x:Value) W,(callFunc g #[x]).run Tryz.prog W=.ok (.enter g #[x]) W)
   (hp:∀ i (hi:i<vs.length),(∀ j,j<i→p j=false)→∀ W,Below w.heap.size w W→Calls Tryz.prog g #[vs[i]] W fun e W' => e=.returned (.bool (p i))∧Below W.heap.size W W') :
   Calls Tryz.prog 75 #[.slice (some ⟨b,0,none⟩) vs.length vs.length,.func (.func g) #[] #[]] w fun e w' => (∃ i:Int,e=.returned (.int .i64 i)∧decide (0≤i)=(List.range vs.length).any p)∧Below w.heap.size w w':=by
 have HC:=Lib.hid h
 have HP:=Lib.hid hp
 have HK:=Lib.hid hcall
 clear h hp hcall
 obtain ⟨N,hN⟩:∃ N,N=vs.length:=⟨_,rfl⟩
 have HN:=Lib.hid hN
 clear hN
 go_enter Tryz.func75,Tryz.ntmps75
 go_wp2_with fail
 go_loopw [8] (fun i wr => ∃ k:Nat,k≤vs.length∧i=.int .i64 k∧Hid (Below w.heap.size w wr∧∀ j,j<k→p j=false)) (fun i _=>N - (intOf i).toNat)
 case atStart=>exact ⟨0,Nat.zero_le _,rfl,Lib.hid ⟨Below.refl _ _,fun j h=>by omega⟩⟩
 case round =>
   obtain ⟨k,hk,rfl,HS⟩:=hrel
   by_cases hlt2:k<vs.length
   · have ck:wr.cell? ⟨b,k,none⟩=some vs[k]:=(HS.out.1.cell (p:=⟨b,k,none⟩) hlt).trans (HC.out k hlt2)
     have HQ:=Lib.hid (HP.out k hlt2 HS.out.2 wr HS.out.1)
     generalize vs[k]=z at ck HQ
     go_wp2_with fail
     rw [HK.out]
     go_wp2_with fail
     refine HQ.out.mono ?_;rintro e w1 ⟨rfl,hb1⟩
     have HB1:=Lib.hid (HS.out.1.trans (hb1.mono HS.out.1.size))
     clear hb1
     cases hq:p k with
     | false =>
       have HG2:Hid (∀ j,j<k+1→p j=false):=Lib.hid (fun j hj=>by
         by_cases e:j=k
         · subst e;exact hq
         · exact HS.out.2 j (by omega))
       clear hq ck
       go_wp2_with fail
       go_roundw
       case rel=>exact ⟨k+1,by omega,by go_num,Lib.hid ⟨HB1.out,HG2.out⟩⟩
       case measure=>have:=HN.out;simp [intOf];omega
     | true =>
       have HT2:Hid ((List.range vs.length).any p=true):=Lib.hid (List.any_eq_true.2 ⟨k,List.mem_range.2 hlt2,hq⟩)
       clear hq ck
       go_wp2_with fail
       go_ret
       exact ⟨⟨k,rfl,by rw [HT2.out];simp⟩,HB1.out⟩
   · have hkk:k=vs.length:=by omega
     subst hkk
     have HT2:Hid ((List.range vs.length).any p=false):=Lib.hid (by
       rw [Bool.eq_false_iff]
       intro e
       obtain ⟨j,hj,hj2⟩:=List.any_eq_true.1 e
       rw [HS.out.2 j (List.mem_range.1 hj)] at hj2;cases hj2)
     go_wp2_with fail
     go_ret
     exact ⟨⟨-1,rfl,by rw [HT2.out];rfl⟩,HS.out.1⟩
theorem conF_gen (g:Nat) (b:Nat) (vs:List Value) (p:Nat→Bool) (w:World) (hlt:b<w.heap.size) (h:IsF w b vs) (hm:vs.length≤1000)
   (hcall:∀ (x:Value) W,(callFunc g #[x]).run Tryz.prog W=.ok (.enter g #[x]) W)
   (hp:∀ i (hi:i<vs.length),(∀ j,j<i→p j=false)→∀ W,Below w.heap.size w W→Calls Tryz.prog g #[vs[i]] W fun e W' => e=.returned (.bool (p i))∧Below W.heap.size W W') :
   Calls Tryz.prog 52 #[.slice (some ⟨b,0,none⟩) vs.length vs.length,.func (.func g) #[] #[]] w fun e w' => e=.returned (.bool ((List.range vs.length).any p))∧Below w.heap.size w w':=by
 go_enter Tryz.func52,Tryz.ntmps52
 go_wp2_with fail
 refine (idxF_gen g b vs p w hlt h hm hcall hp).mono ?_;rintro e w1 ⟨⟨i,rfl,hi⟩,hb1⟩
 have HI:=Lib.hid hi
 clear hi h hcall hp
 go_wp2_with fail
 go_ret
 exact ⟨by rw [← HI.out];rfl,hb1⟩
set_option maxRecDepth 100000 in
set_option maxHeartbeats 1000000 in
theorem all1_any (g:Nat) (bound capt:Array Value) (p:Bool) (w:World) (hcall:∀ W,(callFunc g (bound ++ capt)).run Tryz.prog W=.ok (.enter g (bound ++ capt)) W) (hp:Calls Tryz.prog g (bound ++ capt) w fun e W' => e=.returned (.bool p)∧Below w.heap.size w W') :
   Calls Tryz.prog 53 #[.func (.func g) bound capt] w fun e w' => e=.returned (.bool (!p))∧Below w.heap.size w w':=by
 have HP:=Lib.hid hp
 have HK:=Lib.hid hcall
 clear hp hcall
 go_enter Tryz.func53,Tryz.ntmps53
 go_wp2_with fail
 rw [HK.out]
 go_wp2_with fail
 refine HP.out.mono ?_;rintro e w1 ⟨rfl,hb1⟩
 go_wp2_with fail
 go_ret
 exact ⟨rfl,hb1⟩
theorem all_gen (b:Nat) (vs:List Value) (p:Nat→Bool) (w:World) (hlt:b<w.heap.size) (h:IsF w b vs) (hm:vs.length≤1000)
   (hp:∀ i (hi:i<vs.length),(∀ j,j<i→p j=true)→∀ W,Below w.heap.size w W→Calls Tryz.prog 53 #[vs[i]] W fun e W' => e=.returned (.bool (!p i))∧Below W.heap.size W W') :
   Calls Tryz.prog 32 #[.slice (some ⟨b,0,none⟩) vs.length vs.length] w fun e w' => e=.returned (.bool ((List.range vs.length).all p))∧Below w.heap.size w w':=by
 have HQ:=Lib.hid (conF_gen 53 b vs (fun i => !p i) w hlt h hm (fun x W=>(enters_of Tryz.func53 (by kernel_rfl) rfl) _ _) (fun i hi hj W hW=>hp i hi (fun j hji=>by have:=hj j hji;simpa using this) W hW))
 clear h hp
 go_enter Tryz.func32,Tryz.ntmps32
 go_wp2_with fail
 refine HQ.out.mono ?_;rintro e w1 ⟨rfl,hb1⟩
 go_wp2_with fail
 go_ret
 exact ⟨by rw [List.not_any_eq_all_not];simp,hb1⟩
end
end Go.Proofs.YtmmmjohoihpbeaaGreat
