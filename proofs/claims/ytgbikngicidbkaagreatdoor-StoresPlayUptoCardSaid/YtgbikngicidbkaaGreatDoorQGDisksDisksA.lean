/- The package disks: what its functions do to a disk in memory;conditions: those typed. -/
import Derived.Test.YtgbikngicidbkaaGreatDoorQGHeapBFz
import Derived.Deep.RegionHeld3
import Derived.Test.YtgbikngicidbkaaGreatDoorQGBaseSumsRefTwinLeftSameB
namespace Go.Proofs.YtgbikngicidbkaaGreatDoor
open Go.RowKit
set_option linter.unusedVariables false
theorem sizeSec:(Tryz.prog.info? 132).map (·.size)=some 64:=by kernel_rfl
theorem bcells_get (l:List UInt8) (i:Nat) (h:i<l.length):(bcells l)[i]?=some (.int .u8 l[i].toNat):=by simp [bcells,h]
def zsec:List UInt8:=List.replicate 64 0
theorem zsec_length:zsec.length=64:=by unfold zsec;exact List.length_replicate
def z64:List Value:=bcells zsec
theorem z64_length:z64.length=64:=by unfold z64;rw [bcells_length,zsec_length]
theorem z64_made:(madeCells (Value.int .u8 0).cells (64*1)).toList=z64:=by
 show (madeCells #[Value.int .u8 0] (64*1)).toList=z64
 rw [toList_madeCells_one]
 unfold z64 bcells zsec
 rw [List.map_replicate];rfl
structure Dsk where
 secs:List (List UInt8)
 left:Int
 blown:Bool
 writes:Int
def Secs (L:List (List UInt8)):Prop:=∀ s ∈ L,s.length=64
theorem flat_length {L:List (List UInt8)} (h:Secs L):L.flatten.length=L.length*64:=by
 induction L with
 | nil=>rfl
 | cons s L ih =>
   rw [List.flatten_cons,List.length_append,ih (fun x hx=>h x (List.mem_cons_of_mem _ hx)),h s List.mem_cons_self,List.length_cons]
   omega
theorem flat_get {L:List (List UInt8)} (h:Secs L) (i:Nat) (hi:i<L.length):(L.flatten.drop (i*64)).take 64=L[i]:=by
 induction L generalizing i with
 | nil=>simp at hi
 | cons s L ih =>
   have hs:=h s List.mem_cons_self
   cases i with
   | zero=>simp [hs]
   | succ i =>
     have e:(i+1)*64=s.length+i*64:=by omega
     rw [List.flatten_cons,e,← List.drop_drop,List.drop_left]
     exact ih (fun x hx=>h x (List.mem_cons_of_mem _ hx)) i (by simpa using hi)
theorem flat_set {L:List (List UInt8)} (h:Secs L) (i:Nat) (hi:i<L.length) (x:List UInt8):(L.set i x).flatten=L.flatten.take (i*64) ++ x ++ L.flatten.drop (i*64+64):=by
 induction L generalizing i with
 | nil=>simp at hi
 | cons s L ih =>
   have hs:=h s List.mem_cons_self
   cases i with
   | zero=>simp [hs]
   | succ i =>
     have e:(i+1)*64=s.length+i*64:=by omega
     have e2:(i+1)*64+64=s.length+(i*64+64):=by omega
     rw [List.set_cons_succ,List.flatten_cons,ih (fun x hx=>h x (List.mem_cons_of_mem _ hx)) i (by simpa using hi),List.flatten_cons,e2,e,List.take_length_add_append,List.drop_length_add_append]
     simp
structure IsDisk (w:World) (bd bl:Nat) (D:Dsk):Prop where
 apart:bd≠bl
 pos:1≤D.secs.length
 most:D.secs.length≤1024
 secs:Secs D.secs
 cells:w.heap[bd]?=some (.cells #[.slice (some ⟨bl,0,none⟩) D.secs.length D.secs.length,.int .i64 D.left,.bool D.blown,.int .i64 D.writes] 96 (0,0))
 row:w.heap[bl]?=some (.cells (bcells D.secs.flatten).toArray 132 (0,0))
theorem IsDisk.touch {S:Nat→Prop} {w w':World} {bd bl:Nat} {D:Dsk} (h:IsDisk w bd bl D) (ht:Touch S w w') (h1:¬ S bd) (h2:¬ S bl):IsDisk w' bd bl D :=
 ⟨h.apart,h.pos,h.most,h.secs,ht.heap h.cells h1,ht.heap h.row h2⟩
theorem IsDisk.lt {w:World} {bd bl:Nat} {D:Dsk} (h:IsDisk w bd bl D):bd<w.heap.size∧bl<w.heap.size:=⟨lt_of_heap h.cells,lt_of_heap h.row⟩
theorem IsDisk.field {w:World} {bd bl:Nat} {D:Dsk} (h:IsDisk w bd bl D) :
   w.cell? ⟨bd,0,none⟩=some (.slice (some ⟨bl,0,none⟩) D.secs.length D.secs.length)∧w.cell? ⟨bd,1,none⟩=some (.int .i64 D.left)∧w.cell? ⟨bd,2,none⟩=some (.bool D.blown)∧w.cell? ⟨bd,3,none⟩=some (.int .i64 D.writes):=by
 refine ⟨?_,?_,?_,?_⟩ <;> rw [cell_of_block h.cells] <;> rfl
theorem IsDisk.byte {w:World} {bd bl:Nat} {D:Dsk} (h:IsDisk w bd bl D) (i j:Nat) (hi:i<D.secs.length) (hj:j<64):w.cell? ⟨bl,i*64+j,none⟩=some (.int .u8 ((D.secs[i]).getD j 0).toNat):=by
 rw [cell_of_block h.row]
 have hg:=flat_get h.secs i hi
 have hl:=flat_length h.secs
 have h64:=h.secs _ (List.getElem_mem hi)
 have hlt:i*64+j<D.secs.flatten.length:=by rw [hl];omega
 have:D.secs.flatten[i*64+j]?=(D.secs[i])[j]?:=by
   rw [← hg,List.getElem?_take,if_pos hj,List.getElem?_drop]
 have hj':j<(D.secs[i]).length:=by omega
 rw [List.getElem?_eq_getElem hlt,List.getElem?_eq_getElem hj'] at this
 have hb:(bcells D.secs.flatten).toArray[i*64+j]?=some (.int .u8 (D.secs.flatten[i*64+j]).toNat):=by rw [List.getElem?_toArray];exact bcells_get _ _ hlt
 rw [hb,Option.some.inj this]
 simp [hj']
theorem IsDisk.apartB {w:World} {bd bl:Nat} {D:Dsk} (h:IsDisk w bd bl D) {a:Option Addr} {n c:Nat} {l:List UInt8} (hb:IsB w a n c l):∀ b off,a=some ⟨b,off,none⟩→l≠[]→¬ (b=bd):=by
 intro b off ha hl hbd
 subst hbd
 obtain ⟨_,_,_,⟨h4,_⟩ | ⟨b',off',hv,_,hc⟩⟩:=hb
 · exact hl h4
 · rw [ha] at hv
   cases hv
   have h0:=hc 0 (List.length_pos_iff.2 hl)
   rw [cell_of_block h.cells] at h0
   match off,h0 with
   | 0,h0=>simp at h0
   | 1,h0=>simp at h0
   | 2,h0=>simp at h0
   | 3,h0=>simp at h0
   | k+4,h0=>simp at h0
def RowB (w:World) (g:Nat) (l:List UInt8):Prop:=w.heap[g]?=some (.cells (bcells l).toArray 5 (0,0))
theorem RowB.isB {w:World} {g:Nat} {l:List UInt8} (h:RowB w g l) (hm:l.length≤maxLen):IsB w (some ⟨g,0,none⟩) l.length l.length l :=
 ⟨rfl,Nat.le_refl _,hm,.inr ⟨g,0,rfl,lt_of_heap h,fun i hi=>by rw [Nat.zero_add,cell_of_block h];simp [bcells,hi]⟩⟩
theorem infoSec:(Tryz.prog.info? 132).map (fun i=>(i.zero,i.size,i.bytes))=some (some (.agg (Array.replicate 64 (.int .u8 0))),64,64):=by kernel_rfl
theorem rowSec:RowTy Tryz.prog 94 132 64 64 (.agg (Array.replicate 64 (.int .u8 0))):=⟨Tryz.underlying94,infoSec,by simp [Value.cells],by decide⟩
theorem made_zeros (k:Nat):(madeCells (Value.agg (Array.replicate 64 (.int .u8 0))).cells (k*64)).toList=bcells (List.replicate k zsec).flatten:=by
 unfold zsec
 have h1:(List.replicate k (List.replicate 64 (0:UInt8))).flatten=List.replicate (k*64) 0:=List.flatten_replicate_replicate
 rw [h1]
 unfold bcells
 rw [List.map_replicate]
 apply List.ext_getElem
 · simp [madeCells]
 · intro i h2 h3
   simp [madeCells,Value.cells]
   have:i % 64<64:=Nat.mod_lt _ (by decide)
   simp [this]
theorem row_of_owns {w:World} {base e size g n:Nat} {xs:List Value} (h:w.ownsRow base e size (.slice (some ⟨g,0,none⟩) n n) n xs):w.heap[g]?=some (.cells xs.toArray e (0,0))∧base≤g:=by
 rcases h.2 with ⟨h',_⟩ | ⟨g',cap',cur,h',hb,hg,hnc,hcm,hcs,htake⟩
 · simp at h'
 · cases h'
   have:cur.toList=xs:=by rw [← htake,← hcs,← Array.length_toList,List.take_length]
   exact ⟨by rw [hg,← this],hb⟩
theorem new_good (n:Nat) (w:World) (h1:1≤n) (h2:n≤1024) :
   Calls Tryz.prog 6 #[.int .i64 n] w fun e w' => ∃ bd bl,e=.returned (.tuple #[.pointer (some ⟨bd,0,none⟩),.int .i64 0])∧Below w.heap.size w w'∧w.heap.size≤bd∧w.heap.size≤bl ∧
     IsDisk w' bd bl ⟨List.replicate n zsec,-1,false,0⟩:=by
 have hd1:decide ((n:Int)<1)=false:=by simp;omega
 have hd2:decide ((1024:Int)<(n:Int))=false:=by simp;omega
 obtain ⟨i0,hi,hz0,hz1,hz2⟩:=info_parts infoSec
 go_enter Tryz.func6,Tryz.ntmps6
 go_wp2_with (refine wpList_make_full _ rfl _ _ 94 rfl w.heap.size 132 i0 _ 64 Tryz.underlying94 hi hz0 hz1 .i64 .i64 _ _ n rfl rfl rfl rfl (by rw [hz2];omega) (by unfold maxLen;omega) (Nat.le_refl _) ?_;intro w1 hown1 hg1)
 go_ret2
 rw [made_zeros] at hown1
 obtain ⟨hrow,_⟩:=row_of_owns hown1
 have hs:=hg1.size
 have hlt:=lt_of_heap hrow
 refine ⟨w1.heap.size,w.heap.size,rfl,((Below.refl _ _).grown hg1 (Nat.le_refl _) (by simp)).alloc hs _,hs,Nat.le_refl _,?_⟩
 exact ⟨by omega,by simpa using h1,by simpa using h2,fun s hs=>by rw [List.eq_of_mem_replicate hs];exact zsec_length,by rw [heap_new];simp,by
   rw [Below.heap_alloc _ _ _ hlt];exact hrow⟩
theorem len_disk (bd bl:Nat) (D:Dsk) (w:World) (h:IsDisk w bd bl D) :
   Calls Tryz.prog 50 #[.pointer (some ⟨bd,0,none⟩)] w fun e w' => e=.returned (.int .i64 D.secs.length)∧w=w':=by
 obtain ⟨f0,f1,f2,f3⟩:=h.field
 go_enter Tryz.func50,Tryz.ntmps50
 go_wp2
 go_ret
 exact ⟨rfl,rfl⟩
theorem read_bad (bd bl:Nat) (D:Dsk) (n:Int) (w:World) (h:IsDisk w bd bl D) (hn:n<0∨D.secs.length≤n) :
   Calls Tryz.prog 200 #[.pointer (some ⟨bd,0,none⟩),.int .i64 n] w fun e w' => e=.returned (.tuple #[.slice none 0 0,.int .i64 1])∧w=w':=by
 obtain ⟨f0,f1,f2,f3⟩:=h.field
 have hp:=h.pos
 have hne:((D.secs.length:Int) == 0)=false:=by rw [beq_eq_false_iff_ne];omega
 rcases hn with hn | hn
 · have h0:decide ((0:Int)≤n)=false:=by simpa using hn
   go_enter Tryz.func200,Tryz.ntmps200
   go_wp2
   go_ret2
   exact ⟨rfl,rfl⟩
 · have h0:decide ((0:Int)≤n)=true:=by simp;omega
   have h1:decide (n<(D.secs.length:Int))=false:=by simpa using hn
   go_enter Tryz.func200,Tryz.ntmps200
   go_wp2
   go_ret2
   exact ⟨rfl,rfl⟩
theorem there_ok (bd bl:Nat) (D:Dsk) (n:Nat) (w:World) (h:IsDisk w bd bl D) (hn:n<D.secs.length) :
   Calls Tryz.prog 81 #[.pointer (some ⟨bd,0,none⟩),.int .i64 n,.func (Fn.func 80) #[.pointer (some ⟨bd,0,none⟩)] #[]] w fun e w' => e=.returned (.int .i64 0)∧w=w':=by
 obtain ⟨f0,f1,f2,f3⟩:=h.field
 have hp:=h.pos
 have hne:((D.secs.length:Int) == 0)=false:=by rw [beq_eq_false_iff_ne];omega
 go_enter Tryz.func81,Tryz.ntmps81
 go_wp2
 go_ret
 exact ⟨rfl,rfl⟩
theorem IsDisk.at {w:World} {bd bl:Nat} {D:Dsk} (h:IsDisk w bd bl D) (n:Nat) (hn:n<D.secs.length):At w (some ⟨bl,n*64,none⟩) (bcells D.secs[n]):=by
 have h64:=h.secs _ (List.getElem_mem hn)
 refine At.of_cells fun j hj => ?_
 rw [bcells_length] at hj
 rw [h.byte n j hn (by omega)]
 have hj':j<D.secs[n].length:=hj
 simp [bcells,hj']
theorem read_good (bd bl:Nat) (D:Dsk) (n:Nat) (w:World) (h:IsDisk w bd bl D) (hn:n<D.secs.length) :
   Calls Tryz.prog 200 #[.pointer (some ⟨bd,0,none⟩),.int .i64 n] w fun e w' => ∃ g,e=.returned (.tuple #[.slice (some ⟨g,0,none⟩) 64 64,.int .i64 0])∧Below w.heap.size w w'∧w.heap.size≤g∧RowB w' g D.secs[n]:=by
 obtain ⟨i0,hi,hz0,hz1,hz2⟩:=info_parts infoU8
 have hmost:=h.most
 have h64:=h.secs _ (List.getElem_mem hn)
 go_enter Tryz.func200,Tryz.ntmps200
 go_wp2_with fail
 refine (there_ok bd bl D n w h hn).mono ?_;rintro e w' ⟨rfl,rfl⟩
 go_wp2_with (first
   | (refine wpList_make_full _ rfl _ _ 24 rfl w.heap.size 5 i0 _ 1 Tryz.underlying24 hi hz0 hz1 .i64 .i64 _ _ 64 rfl rfl rfl rfl (by rw [hz2];decide) (by decide) (Nat.le_refl _) ?_;intro w1 hown1 hg1;have hb1:Below w.heap.size w w1:=(Below.refl _ _).grown hg1 (Nat.le_refl _) (by simp);have h1:=h.touch (Touch.of_below (S:=fun _=>False) hb1) id id;obtain ⟨f0,f1,f2,f3⟩:=h1.field;rw [z64_made] at hown1;have hrow:=(row_of_owns hown1).1)
   | (refine wpList_copy_any rowU8 rfl (.tmp 17) (.tmp 24) _ rfl _ _ _ _ _ _ rfl rfl w.heap.size 0 _ _ hrow (bcells D.secs[n]) (by rw [bcells_length,h64];rfl) (fun _=>rfl) (h1.at n hn) (by rw [bcells_length,h64];simp [z64_length]) (bcells_one _) ?_;intro w2 hg2 ht2)
   | fail)
 go_ret2
 have e:(List.take 0 z64.toArray.toList ++ bcells D.secs[n] ++ List.drop (0+(bcells D.secs[n]).length) z64.toArray.toList).toArray=(bcells D.secs[n]).toArray:=by
   simp [bcells_length,h64,z64_length]
 rw [e] at hg2
 exact ⟨_,rfl,hb1.trans (ht2.below hb1.size (fun k hk=>by omega)),Nat.le_refl _,hg2⟩
theorem fuse_blown (bd bl:Nat) (D:Dsk) (n:Int) (w:World) (h:IsDisk w bd bl D) (hB:D.blown=true) :
   Calls Tryz.prog 17 #[.pointer (some ⟨bd,0,none⟩),.int .i64 n] w fun e w' => e=.returned (.int .i64 8)∧w=w':=by
 obtain ⟨f0,f1,f2,f3⟩:=h.field
 have hp:=h.pos
 have hne:((D.secs.length:Int) == 0)=false:=by rw [beq_eq_false_iff_ne];omega
 rw [hB] at f2
 go_enter Tryz.func17,Tryz.ntmps17
 go_wp2
 go_ret
 exact ⟨rfl,rfl⟩
theorem fuse_ok (bd bl:Nat) (D:Dsk) (n:Int) (w:World) (h:IsDisk w bd bl D) (hB:D.blown=false) :
   Calls Tryz.prog 17 #[.pointer (some ⟨bd,0,none⟩),.int .i64 n] w fun e w' => e=.returned (.int .i64 0)∧Touch (fun k=>k=bd) w w'∧IsDisk w' bd bl { D with left:=n }:=by
 obtain ⟨f0,f1,f2,f3⟩:=h.field
 have hp:=h.pos
 have hne:((D.secs.length:Int) == 0)=false:=by rw [beq_eq_false_iff_ne];omega
 have hfr:∀ i,w.frozen? ⟨bd,i,none⟩=false:=fun i=>by simp [World.frozen?,h.cells]
 rw [hB] at f2
 have H:=Lib.hid h
 clear h
 go_enter Tryz.func17,Tryz.ntmps17
 go_wp2
 go_ret
 have h:=H.out
 refine ⟨rfl,(Touch.refl _ _).setCell _ _ (.inl rfl),⟨h.apart,h.pos,h.most,h.secs,?_,?_⟩⟩
 · rw [heap_setCell_same _ _ _ _ _ _ h.cells];rfl
 · rw [Below.heap_setCell _ _ _ _ (Ne.symm h.apart)];exact h.row
/- disks: Write;conditions: those typed. -/
def padS (b:List UInt8):List UInt8:=b ++ List.replicate (64 - b.length) 0
theorem padS_length (b:List UInt8) (h:b.length≤64):(padS b).length=64:=by unfold padS;simp;omega
def Dsk.write (D:Dsk) (n:Int) (b:List UInt8):Int × Dsk :=
 if n<0∨(D.secs.length:Int)≤n∨64<b.length then (1,D)
 else if D.blown=true∨D.left=0 then (8,{ D with blown:=true })
 else (0,{ D with secs:=D.secs.set n.toNat (padS b),left:=if 0<D.left then D.left - 1 else D.left,writes:=D.writes+1 })
def thereI (D:Dsk) (n:Int) (m:Nat):Int:=if n<0∨(D.secs.length:Int)≤n∨64<m then 1 else 0
set_option maxHeartbeats 1000000 in
theorem there_w (bd bl:Nat) (D:Dsk) (n:Int) (a:Option Addr) (m c bh bb:Nat) (w:World) (h:IsDisk w bd bl D)
   (hh:w.cell? ⟨bh,0,none⟩=some (.func (Fn.func 80) #[.pointer (some ⟨bd,0,none⟩)] #[])) (hb:w.cell? ⟨bb,0,none⟩=some (.slice a m c)) :
   Calls Tryz.prog 81 #[.pointer (some ⟨bd,0,none⟩),.int .i64 n,.func (Fn.func 82) #[] #[.pointer (some ⟨bh,0,none⟩),.pointer (some ⟨bb,0,none⟩)]] w
     fun e w' => e=.returned (.int .i64 (thereI D n m))∧w=w':=by
 obtain ⟨f0,f1,f2,f3⟩:=h.field
 have hp:=h.pos
 have hne:((D.secs.length:Int) == 0)=false:=by rw [beq_eq_false_iff_ne];omega
 clear h
 by_cases c0:n<0
 · have HV:Hid (thereI D n m=1):=Lib.hid (if_pos (.inl c0))
   have h0:decide ((0:Int)≤n)=false:=by simpa using c0
   go_enter Tryz.func81,Tryz.ntmps81
   go_wp2
   go_ret
   exact ⟨by rw [HV.out];rfl,rfl⟩
 · have h0:decide ((0:Int)≤n)=true:=by simp;omega
   by_cases c1:(D.secs.length:Int)≤n
   · have HV:Hid (thereI D n m=1):=Lib.hid (if_pos (.inr (.inl c1)))
     have h1:decide (n<(D.secs.length:Int))=false:=by simpa using c1
     go_enter Tryz.func81,Tryz.ntmps81
     go_wp2
     go_ret
     exact ⟨by rw [HV.out];rfl,rfl⟩
   · have h1:decide (n<(D.secs.length:Int))=true:=by simp;omega
     by_cases c2:64<m
     · have HV:Hid (thereI D n m=1):=Lib.hid (if_pos (.inr (.inr c2)))
       have h2:decide ((m:Int)≤64)=false:=by simp;omega
       go_enter Tryz.func81,Tryz.ntmps81
       go_wp2
       go_ret
       exact ⟨by rw [HV.out];rfl,rfl⟩
     · have HV:Hid (thereI D n m=0):=Lib.hid (if_neg (by omega))
       have h2:decide ((m:Int)≤64)=true:=by simp;omega
       go_enter Tryz.func81,Tryz.ntmps81
       go_wp2
       go_ret
       exact ⟨by rw [HV.out];rfl,rfl⟩
abbrev wW (w:World) (bd:Nat) (a:Option Addr) (m c:Nat):World:=(w.alloc (.cells #[.slice a m c] 24)).alloc (.cells #[.func (Fn.func 80) #[.pointer (some ⟨bd,0,none⟩)] #[]] 130)
theorem wW_below (w:World) (bd:Nat) (a:Option Addr) (m c:Nat):Below w.heap.size w (wW w bd a m c):=((Below.refl _ _).alloc (Nat.le_refl _) _).alloc (by simp) _
theorem wW_cells (w:World) (bd:Nat) (a:Option Addr) (m c:Nat):(wW w bd a m c).cell? ⟨w.heap.size+1,0,none⟩=some (.func (Fn.func 80) #[.pointer (some ⟨bd,0,none⟩)] #[])∧(wW w bd a m c).cell? ⟨w.heap.size,0,none⟩=some (.slice a m c):=by
 constructor
 · rw [cell_of_block (heap_alloc2_new w _ _)];rfl
 · rw [cell_of_block (heap_alloc2_old w _ _)];rfl
theorem wW_set (w:World) (bd:Nat) (a:Option Addr) (m c i:Nat) (v:Value) (h:bd<w.heap.size):(wW w bd a m c).setCell ⟨bd,i,none⟩ v=((w.setCell ⟨bd,i,none⟩ v).alloc (.cells #[.slice a m c] 24)).alloc (.cells #[.func (Fn.func 80) #[.pointer (some ⟨bd,0,none⟩)] #[]] 130):=by
 unfold wW
 rw [World.setCell_alloc_past _ _ _ _ (by simp;omega),World.setCell_alloc_past _ _ _ _ h]
set_option maxHeartbeats 1000000 in
theorem write_bad (bd bl:Nat) (D:Dsk) (n:Int) (a:Option Addr) (m c:Nat) (w:World) (h:IsDisk w bd bl D) (hn:n<0∨(D.secs.length:Int)≤n∨64<m) :
   Calls Tryz.prog 23 #[.pointer (some ⟨bd,0,none⟩),.int .i64 n,.slice a m c] w fun e w' => e=.returned (.int .i64 1)∧Below w.heap.size w w':=by
 have HV:Hid (thereI D n m=1):=Lib.hid (if_pos hn)
 have H:=Lib.hid h
 clear h hn
 go_enter Tryz.func23,Tryz.ntmps23
 go_wp2_with fail
 refine (there_w bd bl D n a m c _ _ _ (H.out.touch (Touch.of_below (S:=fun _=>False) (wW_below w bd a m c)) id id) (wW_cells w bd a m c).1 (wW_cells w bd a m c).2).mono ?_;rintro e w' ⟨rfl,rfl⟩
 rw [HV.out]
 go_wp2_with fail
 go_ret
 exact ⟨rfl,wW_below w bd a m c⟩
set_option maxHeartbeats 1000000 in
theorem write_blown (bd bl:Nat) (D:Dsk) (n:Int) (a:Option Addr) (m c:Nat) (w:World) (h:IsDisk w bd bl D) (h0:0≤n) (h1:n<D.secs.length) (h2:m≤64) (hb:D.blown=true∨D.left=0) :
   Calls Tryz.prog 23 #[.pointer (some ⟨bd,0,none⟩),.int .i64 n,.slice a m c] w fun e w' => e=.returned (.int .i64 8)∧Touch (fun k=>k=bd) w w'∧IsDisk w' bd bl { D with blown:=true }:=by
 have HV:Hid (thereI D n m=0):=Lib.hid (if_neg (by omega))
 have hw:=h.touch (Touch.of_below (S:=fun _=>False) (wW_below w bd a m c)) id id
 obtain ⟨f0,f1,f2,f3⟩:=hw.field
 have hfr:∀ i,(wW w bd a m c).frozen? ⟨bd,i,none⟩=false:=fun i=>by simp [World.frozen?,hw.cells]
 have H:=Lib.hid hw
 have hlt:=h.lt
 have fin:Touch (fun k=>k=bd) w ((wW w bd a m c).setCell ⟨bd,2,none⟩ (.bool true))∧IsDisk ((wW w bd a m c).setCell ⟨bd,2,none⟩ (.bool true)) bd bl { D with blown:=true }:=by
   refine ⟨(Touch.of_below (wW_below w bd a m c)).setCell _ _ (.inl rfl),⟨h.apart,h.pos,h.most,h.secs,?_,?_⟩⟩
   · rw [heap_setCell_same _ _ _ _ _ _ hw.cells];rfl
   · rw [Below.heap_setCell _ _ _ _ (Ne.symm h.apart)];exact hw.row
 rw [wW_set w bd a m c 2 _ hlt.1] at fin
 have HF:=Lib.hid fin
 clear h hw fin
 by_cases hB:D.blown=true
 · rw [hB] at f2
   clear hb hB
   go_enter Tryz.func23,Tryz.ntmps23
   go_wp2_with fail
   refine (there_w bd bl D n a m c _ _ _ H.out (wW_cells w bd a m c).1 (wW_cells w bd a m c).2).mono ?_;rintro e w' ⟨rfl,rfl⟩
   rw [HV.out]
   go_wp2_with fail
   go_ret
   exact ⟨rfl,HF.out.1,HF.out.2⟩
 · have hB':D.blown=false:=by simpa using hB
   have hl0 : D.left = 0 := by rcases hb with hb | hb
                               · exact absurd hb hB
                               · exact hb
   rw [hB'] at f2
   rw [hl0] at f1
   clear hb hB hB' hl0
   go_enter Tryz.func23,Tryz.ntmps23
   go_wp2_with fail
   refine (there_w bd bl D n a m c _ _ _ H.out (wW_cells w bd a m c).1 (wW_cells w bd a m c).2).mono ?_;rintro e w' ⟨rfl,rfl⟩
   rw [HV.out]
   go_wp2_with fail
   go_ret
   exact ⟨rfl,HF.out.1,HF.out.2⟩
/- disks: Write,where it is let be;conditions: those typed. -/
theorem zeroSec:(Tryz.prog.info? 132).map (·.zero)=some (some (.agg (Array.replicate 64 (.int .u8 0)))):=by kernel_rfl
theorem zeroSec_cells:(Value.agg (Array.replicate 64 (.int .u8 0))).cells=z64.toArray:=by
 unfold z64 bcells zsec
 rw [List.map_replicate]
 exact (List.toArray_replicate ..).symm
theorem pad_cells (b:List UInt8) (h:b.length≤64):(z64.toArray.toList.take 0 ++ bcells b ++ z64.toArray.toList.drop (0+b.length)).toArray=(bcells (padS b)).toArray:=by
 unfold padS z64 zsec
 rw [bcells_append,bcells_zeros,bcells_zeros]
 simp only [List.take_zero,List.nil_append,Nat.zero_add]
 rw [List.drop_replicate]
theorem secs_set {L:List (List UInt8)} (h:Secs L) (n:Nat) (b:List UInt8) (hb:b.length≤64):Secs (L.set n (padS b)):=by
 intro s hs
 rcases List.mem_or_eq_of_mem_set hs with h1 | h1
 · exact h s h1
 · rw [h1];exact padS_length b hb
theorem htV_cell {S:Nat→Prop} {w w':World} (h:Touch S w w') {b o:Nat} {v:Value} (hp:w.cell? ⟨b,o,none⟩=some v) (hs:¬ S b):w'.cell? ⟨b,o,none⟩=some v:=h.cell hp hs
set_option maxRecDepth 100000 in
set_option maxHeartbeats 2000000 in
theorem write_ok_neg (bd bl:Nat) (D:Dsk) (n:Nat) (a:Option Addr) (m c:Nat) (b:List UInt8) (w:World) (h:IsDisk w bd bl D) (h1:n<D.secs.length) (h2:m≤64) (hib:IsB w a m c b) (hB:D.blown=false) (hl:D.left<0) (hw1:0≤D.writes) (hw2:D.writes<4611686018427387904) :
   Calls Tryz.prog 23 #[.pointer (some ⟨bd,0,none⟩),.int .i64 n,.slice a m c] w fun e w' => e=.returned (.int .i64 0)∧Touch (fun k=>k=bd∨k=bl) w w'∧IsDisk w' bd bl { D with secs:=D.secs.set n (padS b),writes:=D.writes+1 }:=by
 have HV:Hid (thereI D n m=0):=Lib.hid (if_neg (by omega))
 have hbel:=wW_below w bd a m c
 have hw:=h.touch (Touch.of_below (S:=fun _=>False) hbel) id id
 have hcb:=(wW_cells w bd a m c).2
 have hcf:=(wW_cells w bd a m c).1
 have hibW:=hib.below hbel
 have hlt:=h.lt
 obtain ⟨W,hW⟩:∃ W,W=wW w bd a m c:=⟨_,rfl⟩
 rw [← hW] at hbel hw hcb hcf hibW
 have HW:=Lib.hid hW
 clear hW
 obtain ⟨f0,f1,f2,f3⟩:=hw.field
 rw [hB] at f2
 have hd0:(D.left == 0)=false:=by rw [beq_eq_false_iff_ne];omega
 have hd1:decide (0<D.left)=false:=by simp;omega
 have hfr:∀ i,W.frozen? ⟨bd,i,none⟩=false:=fun i=>by simp [World.frozen?,hw.cells]
 have H:=Lib.hid h
 clear h
 go_enter Tryz.func23,Tryz.ntmps23
 go_wp2_with fail
 rw [show (w.alloc (.cells #[.slice a m c] 24)).alloc (.cells #[.func (Fn.func 80) #[.pointer (some ⟨bd,0,none⟩)] #[]] 130)=W from HW.out.symm]
 refine (there_w bd bl D n a m c _ _ W hw hcf hcb).mono ?_;rintro e w' ⟨rfl,rfl⟩
 rw [HV.out]
 go_wp2_with (refine wpList_alloc_any rfl 132 rfl _ zeroSec _ zeroSec_cells ?_)
 go_frame
 have hblk:(W.alloc (.cells z64.toArray 132)).drew.heap[W.heap.size]?=some (.cells z64.toArray 132 (0,0)):=heap_new W _
 have hibA:IsB (W.alloc (.cells z64.toArray 132)).drew a m c b:=hibW.below (((Below.refl _ _).alloc (Nat.le_refl _) _).drew)
 have hcbA:=cell_alloc hcb (.cells z64.toArray 132)
 have hmb:=hib.1
 have hlen:Hid ((bcells b).length=Nat.min m 64*1):=Lib.hid (by rw [bcells_length,← hmb,Nat.mul_one];exact (Nat.min_eq_left h2).symm)
 have hfit:0+(bcells b).length≤z64.toArray.size:=by rw [bcells_length,← hmb,List.size_toArray,z64_length];omega
 clear hmb
 go_region_law (first
   | (refine step_copy_any rowU8 rfl (.tmp 48) (.tmp 49) 24 (by rfl) (some ⟨W.heap.size,0,none⟩) a 64 64 m c (by simp [Act.eval]) (by simp [Act.eval]) W.heap.size 0 z64.toArray 132 hblk (bcells b) hlen.out (fun _=>rfl) hibA.at hfit (bcells_one _) ?_;intro w2 hg2 ht2)
   | fail)
 have epad:(z64.toArray.toList.take 0 ++ bcells b ++ z64.toArray.toList.drop (0+(bcells b).length)).toArray=(bcells (padS b)).toArray:=by
   rw [bcells_length]
   exact pad_cells b (by have:=hib.1;omega)
 rw [epad] at hg2
 have hltW:=hw.lt
 have hd2:IsDisk w2 bd bl D:=((hw.touch (Touch.of_below (S:=fun _=>False) (((Below.refl _ _).alloc (Nat.le_refl _) (.cells z64.toArray 132)).drew)) id id).touch ht2 (by omega) (by omega))
 have hT2:Touch (fun k=>k=bd∨k=bl) w w2:=(((Touch.of_below hbel).alloc (.cells z64.toArray 132)).drew).andThen ht2 (fun j hj=>.inr (by have:=hbel.size;omega))
 have hWg:W.heap.size<w2.heap.size:=lt_of_heap hg2
 clear epad hibA hblk hcbA hfit hlen ht2 f0 f1 f2 f3 hfr
 obtain ⟨f0,f1,f2,f3⟩:=hd2.field
 go_wp2_with fail
 have hu:=Tryz.underlying132
 have hi64:(Tryz.prog.info? 132).map (·.size)=some (bcells (padS b)).length:=by rw [bcells_length,padS_length b (by have:=hib.1;omega)];exact sizeSec
 have hlen64:(bcells (padS b)).length=64:=by rw [bcells_length,padS_length b (by have:=hib.1;omega)]
 have hone:=bcells_one (padS b)
 have hr:w2.rangeAt W.heap.size 0 (bcells (padS b)):=rangeAt_row hg2
 have hfl:D.secs.flatten.length=D.secs.length*64:=flat_length hd2.secs
 have ht:w2.there bl (n*64) 64:=there_row hd2.row _ _ (by rw [List.size_toArray,bcells_length,hfl];omega)
 have hap:bd≠bl:=hd2.apart
 have hkeep:(w2.drew.setCells bl (n*64) (bcells (padS b))).cell? ⟨bd,0,none⟩=some (.slice (some ⟨bl,0,none⟩) D.secs.length D.secs.length)∧(w2.drew.setCells bl (n*64) (bcells (padS b))).rangeAt W.heap.size 0 (bcells (padS b))∧(w2.drew.setCells bl (n*64) (bcells (padS b))).there bl (n*64) 64:=by
   refine ⟨?_,World.rangeAt_setCells_apart (w:=w2.drew) hr _ _ _ (by omega),World.there_setCells (w:=w2.drew) ht _ _ _⟩
   rw [World.cell?_setCells_out _ _ _ _ _ (fun h=>absurd h hap)]
   exact f0
 go_region_held3 (fun w' => w'.cell? ⟨bd,0,none⟩=some (.slice (some ⟨bl,0,none⟩) D.secs.length D.secs.length)∧w'.rangeAt W.heap.size 0 (bcells (padS b))∧w'.there bl (n*64) 64) (first | go_keep_ranges | exact hkeep) (fail)
 obtain ⟨hs1,hs2⟩:=setCells_heap Tryz.prog w2.drew bl (n*64) (bcells (padS b)) (bcells D.secs.flatten).toArray 132 hd2.row (by rw [List.size_toArray,bcells_length,bcells_length,hfl,padS_length b (by have:=hib.1;omega)];omega) hone
 have hd3:IsDisk (w2.drew.setCells bl (n*64) (bcells (padS b))) bd bl { D with secs:=D.secs.set n (padS b) }:=by
   refine ⟨hd2.apart,by simpa using hd2.pos,by simpa using hd2.most,secs_set hd2.secs n b (by have:=hib.1;omega),?_,?_⟩
   · have:=hs2.heap (k:=bd) hd2.cells hap
     simpa using this
   · rw [hs1,hlen64,flat_set hd2.secs n h1 (padS b),bcells_append,bcells_append]
     simp [bcells]
 have hT3:Touch (fun k=>k=bd∨k=bl) w (w2.drew.setCells bl (n*64) (bcells (padS b))):=hT2.drew.andThen hs2 (fun j hj=>.inl (.inr hj))
 revert hd3 hT3
 generalize w2.drew.setCells bl (n*64) (bcells (padS b))=W3
 intro hd3 hT3
 clear hkeep hs1 hs2 hr ht f0 f1 f2 f3 hg2 hu hi64 hlen64 hone hfl hd2 hT2 hWg
 obtain ⟨f0,f1,f2,f3⟩:=hd3.field
 have hfr:∀ i,W3.frozen? ⟨bd,i,none⟩=false:=fun i=>by simp [World.frozen?,hd3.cells]
 have H3:=Lib.hid hd3
 clear hd3
 go_wp2_with fail
 go_ret
 have hd3:=H3.out
 refine ⟨rfl,hT3.setCell _ _ (.inl (.inl rfl)),⟨hd3.apart,hd3.pos,hd3.most,hd3.secs,?_,?_⟩⟩
 · rw [heap_setCell_same _ _ _ _ _ _ hd3.cells]
   simp [hB]
 · rw [Below.heap_setCell _ _ _ _ (Ne.symm hd3.apart)];exact hd3.row
set_option maxRecDepth 100000 in
set_option maxHeartbeats 2000000 in
theorem write_ok_pos (bd bl:Nat) (D:Dsk) (n:Nat) (a:Option Addr) (m c:Nat) (b:List UInt8) (w:World) (h:IsDisk w bd bl D) (h1:n<D.secs.length) (h2:m≤64) (hib:IsB w a m c b) (hB:D.blown=false) (hl:0<D.left) (hl2:D.left≤9223372036854775807) (hw1:0≤D.writes) (hw2:D.writes<4611686018427387904) :
   Calls Tryz.prog 23 #[.pointer (some ⟨bd,0,none⟩),.int .i64 n,.slice a m c] w fun e w' => e=.returned (.int .i64 0)∧Touch (fun k=>k=bd∨k=bl) w w'∧IsDisk w' bd bl { D with secs:=D.secs.set n (padS b),left:=D.left - 1,writes:=D.writes+1 }:=by
 have HV:Hid (thereI D n m=0):=Lib.hid (if_neg (by omega))
 have hbel:=wW_below w bd a m c
 have hw:=h.touch (Touch.of_below (S:=fun _=>False) hbel) id id
 have hcb:=(wW_cells w bd a m c).2
 have hcf:=(wW_cells w bd a m c).1
 have hibW:=hib.below hbel
 have hlt:=h.lt
 obtain ⟨W,hW⟩:∃ W,W=wW w bd a m c:=⟨_,rfl⟩
 rw [← hW] at hbel hw hcb hcf hibW
 have HW:=Lib.hid hW
 clear hW
 obtain ⟨f0,f1,f2,f3⟩:=hw.field
 rw [hB] at f2
 have hd0:(D.left == 0)=false:=by rw [beq_eq_false_iff_ne];omega
 have hd1:decide (0<D.left)=true:=by simp;omega
 have hfr:∀ i,W.frozen? ⟨bd,i,none⟩=false:=fun i=>by simp [World.frozen?,hw.cells]
 have hv:IsDisk (W.setCell ⟨bd,1,none⟩ (.int .i64 (D.left - 1))) bd bl { D with left:=D.left - 1 }:=by
   refine ⟨hw.apart,hw.pos,hw.most,hw.secs,?_,?_⟩
   · rw [heap_setCell_same _ _ _ _ _ _ hw.cells];simp
   · rw [Below.heap_setCell _ _ _ _ (Ne.symm hw.apart)];exact hw.row
 have hsame:(W.setCell ⟨bd,1,none⟩ (.int .i64 (D.left - 1))).heap.size=W.heap.size:=by simp
 have htV:Touch (fun k=>k=bd) W (W.setCell ⟨bd,1,none⟩ (.int .i64 (D.left - 1))):=(Touch.refl _ W).setCell _ _ (.inl rfl)
 have HS:=Lib.hid hsame
 have HVd:=Lib.hid hv
 have HtV:=Lib.hid htV
 have H:=Lib.hid h
 clear h hsame hv htV
 go_enter Tryz.func23,Tryz.ntmps23
 go_wp2_with fail
 rw [show (w.alloc (.cells #[.slice a m c] 24)).alloc (.cells #[.func (Fn.func 80) #[.pointer (some ⟨bd,0,none⟩)] #[]] 130)=W from HW.out.symm]
 refine (there_w bd bl D n a m c _ _ W hw hcf hcb).mono ?_;rintro e w' ⟨rfl,rfl⟩
 rw [HV.out]
 go_wp2_with (refine wpList_alloc_any rfl 132 rfl _ zeroSec _ zeroSec_cells ?_)
 go_frame
 have hcbV:=htV_cell HtV.out hcb (by omega)
 have hTV:Touch (fun k=>k=bd∨k=bl) w (W.setCell ⟨bd,1,none⟩ (.int .i64 (D.left - 1))):=(Touch.of_below hbel).andThen HtV.out (fun j hj=>.inl (.inl hj))
 have hdv:=HVd.out
 have hsz:=HS.out
 have hszW:w.heap.size≤W.heap.size:=hbel.size
 have hibV:=hibW.touch HtV.out (hw.apartB hibW)
 revert hcbV hTV hdv hsz hibV
 clear HVd HS HtV f0 f1 f2 f3 hfr hcb hcf hibW hw HW
 generalize W.setCell ⟨bd,1,none⟩ (.int .i64 (D.left - 1))=V
 intro hcbV hTV hdv hsz hibV
 have hszV:w.heap.size≤V.heap.size:=by omega
 clear hsz
 have hblk:(V.alloc (.cells z64.toArray 132)).drew.heap[V.heap.size]?=some (.cells z64.toArray 132 (0,0)):=heap_new V _
 have hibA:IsB (V.alloc (.cells z64.toArray 132)).drew a m c b:=hibV.below (((Below.refl _ _).alloc (Nat.le_refl _) _).drew)
 have hcbA:=cell_alloc hcbV (.cells z64.toArray 132)
 have hmb:=hib.1
 have hlen:Hid ((bcells b).length=Nat.min m 64*1):=Lib.hid (by rw [bcells_length,← hmb,Nat.mul_one];exact (Nat.min_eq_left h2).symm)
 have hfit:0+(bcells b).length≤z64.toArray.size:=by rw [bcells_length,← hmb,List.size_toArray,z64_length];omega
 clear hmb
 go_region_law (first
   | (refine step_copy_any rowU8 rfl (.tmp 48) (.tmp 49) 24 (by rfl) (some ⟨V.heap.size,0,none⟩) a 64 64 m c (by simp [Act.eval]) (by simp [Act.eval]) V.heap.size 0 z64.toArray 132 hblk (bcells b) hlen.out (fun _=>rfl) hibA.at hfit (bcells_one _) ?_;intro w2 hg2 ht2)
   | fail)
 have epad:(z64.toArray.toList.take 0 ++ bcells b ++ z64.toArray.toList.drop (0+(bcells b).length)).toArray=(bcells (padS b)).toArray:=by
   rw [bcells_length]
   exact pad_cells b (by have:=hib.1;omega)
 rw [epad] at hg2
 have hltW:=hdv.lt
 have hd2:IsDisk w2 bd bl { D with left:=D.left - 1 }:=((hdv.touch (Touch.of_below (S:=fun _=>False) (((Below.refl _ _).alloc (Nat.le_refl _) (.cells z64.toArray 132)).drew)) id id).touch ht2 (by omega) (by omega))
 have hT2:Touch (fun k=>k=bd∨k=bl) w w2:=((hTV.alloc (.cells z64.toArray 132)).drew).andThen ht2 (fun j hj=>.inr (by omega))
 have hWg:V.heap.size<w2.heap.size:=lt_of_heap hg2
 clear epad hibA hblk hcbA hfit hlen ht2
 obtain ⟨f0,f1,f2,f3⟩:=hd2.field
 go_wp2_with fail
 have hu:=Tryz.underlying132
 have hi64:(Tryz.prog.info? 132).map (·.size)=some (bcells (padS b)).length:=by rw [bcells_length,padS_length b (by have:=hib.1;omega)];exact sizeSec
 have hlen64:(bcells (padS b)).length=64:=by rw [bcells_length,padS_length b (by have:=hib.1;omega)]
 have hone:=bcells_one (padS b)
 have hr:w2.rangeAt V.heap.size 0 (bcells (padS b)):=rangeAt_row hg2
 have hfl:D.secs.flatten.length=D.secs.length*64:=flat_length hd2.secs
 have ht:w2.there bl (n*64) 64:=there_row hd2.row _ _ (by rw [List.size_toArray,bcells_length,hfl];omega)
 have hap:bd≠bl:=hd2.apart
 have hkeep:(w2.drew.setCells bl (n*64) (bcells (padS b))).cell? ⟨bd,0,none⟩=some (.slice (some ⟨bl,0,none⟩) D.secs.length D.secs.length)∧(w2.drew.setCells bl (n*64) (bcells (padS b))).rangeAt V.heap.size 0 (bcells (padS b))∧(w2.drew.setCells bl (n*64) (bcells (padS b))).there bl (n*64) 64:=by
   refine ⟨?_,World.rangeAt_setCells_apart (w:=w2.drew) hr _ _ _ (by omega),World.there_setCells (w:=w2.drew) ht _ _ _⟩
   rw [World.cell?_setCells_out _ _ _ _ _ (fun h=>absurd h hap)]
   exact f0
 go_region_held3 (fun w' => w'.cell? ⟨bd,0,none⟩=some (.slice (some ⟨bl,0,none⟩) D.secs.length D.secs.length)∧w'.rangeAt V.heap.size 0 (bcells (padS b))∧w'.there bl (n*64) 64) (first | go_keep_ranges | exact hkeep) (fail)
 obtain ⟨hs1,hs2⟩:=setCells_heap Tryz.prog w2.drew bl (n*64) (bcells (padS b)) (bcells D.secs.flatten).toArray 132 hd2.row (by rw [List.size_toArray,bcells_length,bcells_length,hfl,padS_length b (by have:=hib.1;omega)];omega) hone
 have hd3:IsDisk (w2.drew.setCells bl (n*64) (bcells (padS b))) bd bl { D with secs:=D.secs.set n (padS b),left:=D.left - 1 }:=by
   refine ⟨hd2.apart,by simpa using hd2.pos,by simpa using hd2.most,secs_set hd2.secs n b (by have:=hib.1;omega),?_,?_⟩
   · have:=hs2.heap (k:=bd) hd2.cells hap
     simpa using this
   · rw [hs1,hlen64,flat_set hd2.secs n h1 (padS b),bcells_append,bcells_append]
     simp [bcells]
 have hT3:Touch (fun k=>k=bd∨k=bl) w (w2.drew.setCells bl (n*64) (bcells (padS b))):=hT2.drew.andThen hs2 (fun j hj=>.inl (.inr hj))
 revert hd3 hT3
 generalize w2.drew.setCells bl (n*64) (bcells (padS b))=W3
 intro hd3 hT3
 clear hkeep hs1 hs2 hr ht f0 f1 f2 f3 hg2 hu hi64 hlen64 hone hfl hd2 hT2 hWg
 obtain ⟨f0,f1,f2,f3⟩:=hd3.field
 have hfr:∀ i,W3.frozen? ⟨bd,i,none⟩=false:=fun i=>by simp [World.frozen?,hd3.cells]
 have H3:=Lib.hid hd3
 clear hd3
 go_wp2_with fail
 go_ret
 have hd3:=H3.out
 refine ⟨rfl,hT3.setCell _ _ (.inl (.inl rfl)),⟨hd3.apart,hd3.pos,hd3.most,hd3.secs,?_,?_⟩⟩
 · rw [heap_setCell_same _ _ _ _ _ _ hd3.cells]
   simp [hB]
 · rw [Below.heap_setCell _ _ _ _ (Ne.symm hd3.apart)];exact hd3.row
/- disks: Write for every input,and Copy;conditions: those typed. -/
def Dsk.ok (D:Dsk):Prop:=0≤D.writes∧D.writes<4611686018427387904∧D.left≤9223372036854775807
theorem write_any (bd bl:Nat) (D:Dsk) (n:Int) (a:Option Addr) (m c:Nat) (b:List UInt8) (w:World) (h:IsDisk w bd bl D) (hib:IsB w a m c b) (hok:D.ok) :
   Calls Tryz.prog 23 #[.pointer (some ⟨bd,0,none⟩),.int .i64 n,.slice a m c] w fun e w' => e=.returned (.int .i64 (D.write n b).1)∧Touch (fun k=>k=bd∨k=bl) w w'∧IsDisk w' bd bl (D.write n b).2:=by
 have hm:=hib.1
 by_cases h1:n<0∨(D.secs.length:Int)≤n∨64<b.length
 · have e:D.write n b=(1,D):=if_pos h1
   rw [e]
   refine (write_bad bd bl D n a m c w h (by omega)).mono ?_
   rintro e w' ⟨he,hb⟩
   exact ⟨he,Touch.of_below hb,h.touch (Touch.of_below (S:=fun _=>False) hb) id id⟩
 by_cases h2:D.blown=true∨D.left=0
 · have e:D.write n b=(8,{ D with blown:=true }):=by unfold Dsk.write;rw [if_neg h1,if_pos h2]
   rw [e]
   refine (write_blown bd bl D n a m c w h (by omega) (by omega) (by omega) h2).mono ?_
   rintro e w' ⟨he,ht,hd⟩
   exact ⟨he,ht.weaken (fun k _ hk=>.inl hk),hd⟩
 have e:D.write n b=(0,{ D with secs:=D.secs.set n.toNat (padS b),left:=if 0<D.left then D.left - 1 else D.left,writes:=D.writes+1 }):=by unfold Dsk.write;rw [if_neg h1,if_neg h2]
 have hB:D.blown=false:=by
   cases hb:D.blown with
   | false=>rfl
   | true=>exact absurd (.inl hb) h2
 rw [e]
 obtain ⟨k,rfl⟩:=Int.eq_ofNat_of_zero_le (show 0≤n by omega)
 by_cases h3:0<D.left
 · rw [if_pos h3]
   exact write_ok_pos bd bl D k a m c b w h (by omega) (by omega) hib hB h3 hok.2.2 hok.1 hok.2.1
 · rw [if_neg h3]
   exact write_ok_neg bd bl D k a m c b w h (by omega) (by omega) hib hB (by omega) hok.1 hok.2.1
def CopyPost (D:Dsk) (w:World) (e:Ending) (w':World):Prop :=
 ∃ cd cl,e=.returned (.tuple #[.pointer (some ⟨cd,0,none⟩),.int .i64 0])∧Below w.heap.size w w'∧w.heap.size≤cd∧w.heap.size≤cl∧IsDisk w' cd cl ⟨D.secs,-1,false,0⟩
set_option maxHeartbeats 2000000 in
theorem copy_disk (bd bl:Nat) (D:Dsk) (w:World) (h:IsDisk w bd bl D) :
   Calls Tryz.prog 19 #[.pointer (some ⟨bd,0,none⟩)] w (CopyPost D w):=by
 obtain ⟨f0,f1,f2,f3⟩:=h.field
 have hp:=h.pos
 have hne:((D.secs.length:Int) == 0)=false:=by rw [beq_eq_false_iff_ne];omega
 have hlt:=h.lt
 go_enter Tryz.func19,Tryz.ntmps19
 go_wp2_with fail
 refine (new_good D.secs.length w h.pos h.most).mono ?_;rintro e w1 ⟨cd,cl,rfl,hb1,h1,h2,hc1⟩
 have hd1:=h.touch (Touch.of_below (S:=fun _=>False) hb1) id id
 clear f0 f1 f2 f3
 obtain ⟨f0,f1,f2,f3⟩:=hd1.field
 obtain ⟨c0,c1,c2,c3⟩:=hc1.field
 rw [show (Dsk.mk (List.replicate D.secs.length zsec) (-1) false 0).secs.length=D.secs.length from List.length_replicate] at c0
 go_wp2_with fail
 have hfl:D.secs.flatten.length=D.secs.length*64:=flat_length h.secs
 have hfz:(List.replicate D.secs.length zsec).flatten.length=D.secs.length*64:=by
   have:=flat_length hc1.secs
   rwa [show (Dsk.mk (List.replicate D.secs.length zsec) (-1) false 0).secs.length=D.secs.length from List.length_replicate] at this
 have hln:Hid ((bcells D.secs.flatten).length=Nat.min D.secs.length D.secs.length*64):=Lib.hid (by rw [bcells_length,hfl];show _=min D.secs.length D.secs.length*64;rw [Nat.min_self])
 have hat:At w1.drew (some ⟨bl,0,none⟩) (bcells D.secs.flatten):=At.of_cells (w:=w1.drew) fun j hj=>by
   rw [Nat.zero_add]
   show w1.cell? _=_
   rw [cell_of_block hd1.row,List.getElem?_toArray,List.getElem?_eq_getElem hj]
 have hfit:0+(bcells D.secs.flatten).length≤(bcells (List.replicate D.secs.length zsec).flatten).toArray.size:=by rw [List.size_toArray,bcells_length,bcells_length,hfl,hfz];omega
 have hcr:w1.drew.heap[cl]?=some (.cells (bcells (List.replicate D.secs.length zsec).flatten).toArray 132 (0,0)):=hc1.row
 go_region_law (first
   | (refine step_copy_any rowSec rfl (.tmp 28) (.tmp 32) 94 (by rfl) (some ⟨cl,0,none⟩) (some ⟨bl,0,none⟩) D.secs.length D.secs.length D.secs.length D.secs.length (by simp [Act.eval]) (by simp [Act.eval]) cl 0 _ 132 hcr (bcells D.secs.flatten) hln.out (fun _=>rfl) hat hfit (bcells_one _) ?_;intro w2 hg2 ht2)
   | fail)
 all_goals
   have er:(List.take 0 (bcells (List.replicate D.secs.length zsec).flatten) ++ bcells D.secs.flatten ++ List.drop (0+(bcells D.secs.flatten).length) (bcells (List.replicate D.secs.length zsec).flatten)).toArray=(bcells D.secs.flatten).toArray:=by
     rw [List.take_zero,List.nil_append,List.drop_eq_nil_of_le (by rw [bcells_length,bcells_length,hfl,hfz];omega),List.append_nil]
   rw [er] at hg2
   have hb2:Below w.heap.size w w2:=hb1.trans (((Touch.refl _ w1).drew.trans ht2).below hb1.size (fun k hk=>by omega))
   have hcd:IsDisk w2 cd cl ⟨D.secs,-1,false,0⟩:=⟨hc1.apart,h.pos,h.most,h.secs,by
     have:=ht2.heap (k:=cd) hc1.cells hc1.apart
     rw [show (Dsk.mk (List.replicate D.secs.length zsec) (-1) false 0).secs.length=D.secs.length from List.length_replicate] at this
     exact this,hg2⟩
   clear er hfit hcr hln hat hfl hfz hg2 ht2 f0 f1 f2 f3 c0 c1 c2 c3 hd1 hc1
   go_wp2_with fail
   go_ret2
   exact ⟨cd,cl,rfl,hb2,h1,h2,hcd⟩
/- disks: what its functions answer where there is no disk;conditions: those typed. -/
theorem RowB.touch {S:Nat→Prop} {w w':World} {g:Nat} {l:List UInt8} (h:RowB w g l) (ht:Touch S w w') (hs:¬ S g):RowB w' g l:=ht.heap h hs
set_option maxHeartbeats 1000000 in
theorem sameBs_some (a b ao bo c d A B:Nat) (l m:List (List UInt8)) (w:World) (hlen:l.length≤9223372036854775807) (hlm:l.length=m.length)
   (hl:∀ i (h:i<l.length),∃ u,w.cell? ⟨a,ao+i,none⟩=some u∧ReadAs w A u l[i]) (hm:∀ i (h:i<m.length),∃ u,w.cell? ⟨b,bo+i,none⟩=some u∧ReadAs w B u m[i]) :
   Calls Tryz.prog 91 #[.slice (some ⟨a,ao,none⟩) l.length c,.slice (some ⟨b,bo,none⟩) l.length d] w fun e w' => e=.returned (.bool (decide (l=m)))∧∃ j,w'=w.drewN j:=by
 go_enter Tryz.func91,Tryz.ntmps91
 go_wp2
 go_loopw [5] (fun i wr => ∃ k j:Nat,k≤l.length∧i=.int .i64 k∧wr=w.drewN j∧l.take k=m.take k) (fun i _=>l.length - (intOf i).toNat)
 case atStart=>exact ⟨0,0,Nat.zero_le _,rfl,rfl,rfl⟩
 case round =>
   obtain ⟨k,j,hk,rfl,hwr,hs⟩:=hrel
   have HS:=Lib.hid hs
   clear hs
   have HW:=Lib.hid hwr
   have hbw:Below w.heap.size w wr:=by rw [hwr];exact below_drewN (Below.refl _ _) _
   have HBW:=Lib.hid hbw
   have HLM:=Lib.hid hlm
   by_cases hlt:k<l.length
   · have hkm:k<m.length:=by rw [← HLM.out];exact hlt
     obtain ⟨u,h1,a1,n1,c1,rfl,r1,_⟩:=hl k hlt
     obtain ⟨u,h2,a2,n2,c2,rfl,r2,_⟩:=hm k hkm
     have s1:=r1.below hbw
     have s2:=r2.below hbw
     rw [← World.cell?_drewN w j,← hwr] at h1 h2
     clear hl hm hlm hwr hbw r1 r2
     have R1:=Lib.hid s1
     have R2:=Lib.hid s2
     clear s1 s2
     by_cases he:l[k]=m[k]
     · have HE:=Lib.hid he
       have hn:decide (l[k]=m[k])=true:=decide_eq_true he
       clear he
       go_wp2_with fail
       go_quiet ((go_at_call 92;exact Calls.quiet_of (sameB_any a1 a2 n1 n2 c1 c2 l[k] m[k] _ (R1.out.below (below_drewN (Below.refl _ _) _)) (R2.out.below (below_drewN (Below.refl _ _) _)))))
       go_wp2_with fail
       go_roundw
       case rel=>exact ⟨k+1,j+nq,by omega,by go_num,by rw [HW.out];simp,by rw [List.take_succ_eq_append_getElem hlt,List.take_succ_eq_append_getElem hkm,HS.out,HE.out]⟩
       case measure=>simp [intOf];omega
     · have HE:=Lib.hid he
       have hn:decide (l[k]=m[k])=false:=decide_eq_false he
       clear he
       go_wp2_with fail
       go_quiet ((go_at_call 92;exact Calls.quiet_of (sameB_any a1 a2 n1 n2 c1 c2 l[k] m[k] _ (R1.out.below (below_drewN (Below.refl _ _) _)) (R2.out.below (below_drewN (Below.refl _ _) _)))))
       go_wp2_with fail
       go_ret
       refine ⟨?_,j+nq,by rw [HW.out];simp⟩
       have hne:decide (l=m)=false:=decide_eq_false (fun h=>HE.out (by subst h;rfl))
       rw [hne];rfl
   · have hkk:k=l.length:=by omega
     subst hkk
     clear hl hm hlm hwr hbw
     have hlm':l=m:=by
       have h:=HS.out
       rw [List.take_length,HLM.out,List.take_length] at h
       exact h
     have HQ:=Lib.hid hlm'
     clear hlm'
     go_wp2
     go_ret
     refine ⟨?_,_,HW.out⟩
     rw [decide_eq_true HQ.out];rfl
theorem sameBs_apart (a b:Option Addr) (n m c d:Nat) (w:World) (hnm:n≠m) :
   Calls Tryz.prog 91 #[.slice a n c,.slice b m d] w fun e w' => e=.returned (.bool false)∧∃ j,w'=w.drewN j:=by
 have hne:((n:Int) != (m:Int))=true:=by rw [bne_iff_ne];omega
 go_enter Tryz.func91,Tryz.ntmps91
 go_wp2
 go_ret
 exact ⟨rfl,0,rfl⟩
theorem sameBs_nil (a b:Option Addr) (c d:Nat) (w:World) :
   Calls Tryz.prog 91 #[.slice a 0 c,.slice b 0 d] w fun e w' => e=.returned (.bool true)∧∃ j,w'=w.drewN j:=by
 go_enter Tryz.func91,Tryz.ntmps91
 go_wp2
 go_loop [5] (fun i=>i=.int .i64 0) (fun _=>0)
 case atStart=>rfl
 case round =>
   obtain rfl:=hrel
   go_wp2
   go_ret
   exact ⟨rfl,0,rfl⟩
theorem sameBs_any (a b:Option Addr) (A B n m c d:Nat) (l k:List (List UInt8)) (w:World) (hl:IsBB w A a n c l) (hk:IsBB w B b m d k) :
   Calls Tryz.prog 91 #[.slice a n c,.slice b m d] w fun e w' => e=.returned (.bool (decide (l=k)))∧∃ j,w'=w.drewN j:=by
 by_cases hnm:n=m
 · obtain ⟨rfl,h1,h2,h3⟩:=hl
   obtain ⟨rfl,k1,k2,k3⟩:=hk
   rcases h3 with rfl | ⟨b1,o1,rfl,hb1,hlt1,hc1⟩
   · obtain rfl:k=[]:=List.eq_nil_of_length_eq_zero hnm.symm
     exact sameBs_nil a b c d w
   · rcases k3 with rfl | ⟨b2,o2,rfl,hb2,hlt2,hc2⟩
     · obtain rfl:l=[]:=List.eq_nil_of_length_eq_zero hnm
       exact sameBs_nil _ b c d w
     · rw [← hnm]
       exact sameBs_some b1 b2 o1 o2 c d A B l k w (by unfold maxLen at h2;omega) hnm hc1 hc2
 · have hne:decide (l=k)=false:=decide_eq_false (fun h=>hnm (by rw [hl.1,hk.1,h]))
   rw [hne]
   exact sameBs_apart a b n m c d w hnm
end Go.Proofs.YtgbikngicidbkaaGreatDoor
