/- The package halls: sets;conditions: those typed. -/
import Derived.Test.YtmmmjohoihpbeaaGreatTJwRJwTJwU
import Derived.Test.YtmmmjohoihpbeaaGreatTJwY
import Derived.Deep.RegionHeld3
import Derived.Deep.DeepCutAuto
namespace Go.Proofs.YtmmmjohoihpbeaaGreat
section
open Go.RowKit Go.Shelf
set_option linter.unusedVariables false
set_option linter.unusedSimpArgs false
attribute [local go_sem] Oper.semAt_some
def setsL:Nat→List Int→Nat→Nat→List (List Int)
 | 0,ah,_,_=>[ah]
 | m+1,ah,f,it=>(List.range' f (it - m - f)).flatMap fun k:Nat=>setsL m (ah ++ [(k:Int)]) (k+1) it
def setsU (m:Nat) (ah:List Int) (f it k:Nat):List (List Int):=(List.range' f (k - f)).flatMap fun k:Nat=>setsL m (ah ++ [(k:Int)]) (k+1) it
theorem setsU_start (m:Nat) (ah:List Int) (f it:Nat):setsU m ah f it f=[]:=by simp [setsU]
theorem setsU_succ (m:Nat) (ah:List Int) (f it k:Nat) (h:f≤k):setsU m ah f it (k+1)=setsU m ah f it k ++ setsL m (ah ++ [(k:Int)]) (k+1) it:=by
 unfold setsU
 rw [show k+1 - f=(k - f)+1 by omega,List.range'_concat,List.flatMap_append]
 simp [show f+(k - f)=k by omega]
theorem setsL_end (m:Nat) (ah:List Int) (f it k:Nat) (h:f≤k) (h1:it - m≤k) (h2:k≤it - m∨k=f):setsU m ah f it k=setsL (m+1) ah f it:=by
 unfold setsU
 show _=(List.range' f (it - m - f)).flatMap _
 rw [show k - f=it - m - f by omega]
structure SlX where
 a:Option Addr
 n:Nat
 c:Nat
 l:List Int
def SlX.enc (x:SlX):Array Value:=#[.slice x.a x.n x.c]
def SlX.is (x:SlX) (W:World):Prop:=IsI W x.a x.n x.c x.l
def SlX.ok (M:List Int→Prop) (x:SlX) (W:World):Prop:=x.is W∧M x.l
theorem SlX.put (M:List Int→Prop) (x:SlX) (W:World) (l:Nat) (o o':Obj) (h:x.ok M W) (h1:W.heap[l]?=some o) (h2:o.isCells=false):x.ok M (W.putObj l o'):=⟨isI_put h.1 h1 h2,h.2⟩
theorem setsL_mem {m:Nat} {ah:List Int} {f it k:Nat} {l:List Int} (h1:f≤k) (h2:k+(m+1)≤it) (h:l ∈ setsL m (ah ++ [(k:Int)]) (k+1) it):l ∈ setsL (m+1) ah f it:=by
 show l ∈ (List.range' f (it - m - f)).flatMap _
 rw [List.mem_flatMap]
 exact ⟨k,by rw [List.mem_range'_1];omega,h⟩
structure SetB (w:World) (tb ab fb ib:Nat) (ah:List Int) (f it m:Nat):Prop where
 t:w.heap[tb]?=some (.cells #[.int .i64 (m:Int)] 3 (0,0))
 a:∃ x n c,w.heap[ab]?=some (.cells #[.slice x n c] 22 (0,0))∧IsI w x n c ah
 f:w.heap[fb]?=some (.cells #[.int .i64 (f:Int)] 3 (0,0))
 i:w.heap[ib]?=some (.cells #[.int .i64 (it:Int)] 3 (0,0))
theorem SetB.below {w w':World} {tb ab fb ib:Nat} {ah:List Int} {f it m:Nat} (h:SetB w tb ab fb ib ah f it m) (hb:Below w.heap.size w w'):SetB w' tb ab fb ib ah f it m:=by
 obtain ⟨h1,⟨x,n,c,h2,h3⟩,h4,h5⟩:=h
 exact ⟨below_heap hb h1 (lt_of_heap h1),⟨x,n,c,below_heap hb h2 (lt_of_heap h2),h3.below hb⟩,below_heap hb h4 (lt_of_heap h4),below_heap hb h5 (lt_of_heap h5)⟩
theorem alloc4J (w:World) (o1 o2 o3 o4:Obj):Below w.heap.size w ((((w.alloc o1).alloc o2).alloc o3).alloc o4)∧((((w.alloc o1).alloc o2).alloc o3).alloc o4).heap[w.heap.size]?=some o1∧((((w.alloc o1).alloc o2).alloc o3).alloc o4).heap[w.heap.size+1]?=some o2∧((((w.alloc o1).alloc o2).alloc o3).alloc o4).heap[w.heap.size+1+1]?=some o3∧((((w.alloc o1).alloc o2).alloc o3).alloc o4).heap[w.heap.size+1+1+1]?=some o4:=by
 obtain ⟨h0,h1,h2⟩:=alloc2_facts w o1 o2
 obtain ⟨g0,g1,g2⟩:=alloc2_facts ((w.alloc o1).alloc o2) o3 o4
 rw [World.size_alloc,World.size_alloc] at g1 g2
 exact ⟨h0.trans (g0.mono h0.size),below_heap g0 h1 (lt_of_heap h1),below_heap g0 h2 (lt_of_heap h2),g1,g2⟩
set_option maxHeartbeats 1000000 in
theorem sets_any (x:Option Addr) (n c:Nat) (ah:List Int) (f it m:Nat) (w:World) (h:IsI w x n c ah) :
   Calls Tryz.prog 118 #[.slice x n c,.int .i64 f,.int .i64 it,.int .i64 m] w fun e w' => ∃ tb ab fb ib,e=.returned (.func (.func 159) #[] #[.pointer (some ⟨tb,0,none⟩),.pointer (some ⟨ab,0,none⟩),.pointer (some ⟨fb,0,none⟩),.pointer (some ⟨ib,0,none⟩)])∧Below w.heap.size w w'∧SetB w' tb ab fb ib ah f it m:=by
 obtain ⟨q0,q1,q2,q3,q4⟩:=alloc4J w (.cells #[.slice x n c] 22 (0,0)) (.cells #[.int .i64 (f:Int)] 3 (0,0)) (.cells #[.int .i64 (it:Int)] 3 (0,0)) (.cells #[.int .i64 (m:Int)] 3 (0,0))
 go_enter Tryz.func118,Tryz.ntmps118
 go_wp2
 go_ret
 exact ⟨w.heap.size+1+1+1,w.heap.size,w.heap.size+1,w.heap.size+1+1,rfl,q0,q4,⟨x,n,c,q1,h.below q0⟩,q2,q3⟩
set_option maxRecDepth 100000 in
set_option maxHeartbeats 4000000 in
theorem sets1_zero (M:List Int→Prop) (it:Nat) (ah:List Int) (f:Nat) (w:World) (tb ab fb ib:Nat) (h:SetB w tb ab fb ib ah f it 0) (hM:∀ l ∈ setsL 0 ah f it,M l) :
   SeqR Tryz.prog 159 #[.pointer (some ⟨tb,0,none⟩),.pointer (some ⟨ab,0,none⟩),.pointer (some ⟨fb,0,none⟩),.pointer (some ⟨ib,0,none⟩)] SlX.enc (SlX.ok M) (fun xs=>xs.map SlX.l=setsL 0 ah f it) w:=by
 intro l J Jx W hW hl hJ hJx hY h0
 obtain ⟨ht,⟨x,n,c,ha,hI⟩,hf,hi⟩:=h.below (hW.mono (Nat.le_refl _))
 have hB1:Below W.heap.size W (W.alloc (.cells #[.func (.yield l) #[] #[]] 66 (0,0))):=(Below.refl _ _).alloc (Nat.le_refl _) _
 have hv:=heap_new W (.cells #[.func (.yield l) #[] #[]] 66 (0,0))
 have hJ1:J [] (W.alloc (.cells #[.func (.yield l) #[] #[]] 66 (0,0))):=hJ.alloc _ h0
 have hI1:=hI.below hB1
 have c0:=cell_later hB1 (show W.cell? ⟨tb,0,none⟩=some (.int .i64 0) by rw [cell_of_block ht];rfl)
 have c1:=cell_later hB1 (show W.cell? ⟨ab,0,none⟩=some (.slice x n c) by rw [cell_of_block ha];rfl)
 have c2:(W.alloc (.cells #[.func (.yield l) #[] #[]] 66 (0,0))).cell? ⟨W.heap.size,0,none⟩=some (.func (.yield l) #[] #[]):=by rw [cell_of_block hv];rfl
 obtain ⟨fn,tmps,assign,body,hy,hR⟩:=hY [] ⟨x,n,c,ah⟩ _ hB1.size hJ1 ⟨hI1,hM _ (by simp [setsL])⟩
 dsimp only [SlX.enc] at hy
 have HR:=Lib.hid hR
 clear hY hR hv hI1 hI ht ha hf hi
 refine callsIn_of_wp_marks Tryz.func159 rfl trivial ?_ rfl
 simp only [Tryz.ntmps159,List.size_toArray,List.length_cons,List.length_nil,Nat.reduceAdd,Nat.reduceSub,Array.replicate_succ,Array.replicate_zero,List.push_toArray,List.append_toArray,List.nil_append,List.cons_append]
 gi_wp2_with fail
 refine ⟨rfl,?_⟩
 refine HR.out.mono ?_
 rintro e W3 (⟨rfl,hJ3,_⟩ | ⟨rfl,hJx3,_⟩)
 · gi_wp2_with fail
   exact ⟨_,results_none rfl _ _ _,⟨_,rfl⟩,.inl ⟨_,rfl,hJ3⟩⟩
 · gi_wp2_with fail
   exact ⟨_,results_none rfl _ _ _,⟨_,rfl⟩,.inr ⟨_,hJx3⟩⟩
def SetQ (J:List SlX→World→Prop) (W5:World) (B m:Nat) (ah:List Int) (f it k:Nat) (ds:List Nat) (wr:World):Prop :=
 (∃ pre:List SlX,pre.map SlX.l=setsU m ah f it k∧J pre wr)∧Below W5.heap.size W5 wr∧MkD B ds wr
theorem own_below {β:Type} {B:Nat} {J:β→World→Prop} (h:OwnFrom B J) {s:β} {A A':World} (hs:J s A) (hb:Below A.heap.size A A'):J s A' :=
 h s A A' none hs ⟨hb.os,hb.tape,hb.output,hb.size,fun k hk _=>hb.block k hk⟩ (fun r e=>by cases e)
theorem RoundIn.inR {F:Fence} {n:Nat} {P:Program} {l:Nat} {f:FuncId} {tmps:Array Value} {assign body:Code} {w:World} {R:Ending→World→Prop} (k:Nat) (h:RoundIn F n P l f tmps assign body w R):RoundIn (F.inRound k) n P l f tmps assign body w R:=h
theorem own_stop {X:Type} {B C:Nat} {Jx:List X→World→Prop} {ds:List Nat} (c:Code) (h:OwnFrom C Jx) (hlt:∀ D ∈ ds,D<C):OwnFrom C (fun (q:List X) W' => c=Code.ret∧(∃ p,Jx p W')∧MkD B ds W'):=fun s A A' row hs hg hr =>
 ⟨hs.1,by obtain ⟨p,hp⟩:=hs.2.1;exact ⟨p,h p A A' row hp hg hr⟩,own_marks (β:=Unit) B C ds hlt () A A' row hs.2.2 hg hr⟩
set_option maxRecDepth 100000 in
set_option maxHeartbeats 8000000 in
theorem sets1_succ (M : List Int → Prop) (it m : Nat) (hit : it ≤ 8) (hm : m ≤ 8) (ih : ∀ (ah : List Int) (f : Nat) (w : World) (tb ab fb ib : Nat), ah.length ≤ 20 - m → f ≤ 100 → SetB w tb ab fb ib ah f it m → (∀ l ∈ setsL m ah f it, M l) →
     SeqR Tryz.prog 159 #[.pointer (some ⟨tb,0,none⟩),.pointer (some ⟨ab,0,none⟩),.pointer (some ⟨fb,0,none⟩),.pointer (some ⟨ib,0,none⟩)] SlX.enc (SlX.ok M) (fun xs=>xs.map SlX.l=setsL m ah f it) w)
   (ah:List Int) (f:Nat) (w:World) (tb ab fb ib:Nat) (hal:ah.length≤20 - (m+1)) (hf8:f≤100) (h:SetB w tb ab fb ib ah f it (m+1)) (hM:∀ l ∈ setsL (m+1) ah f it,M l) :
   SeqR Tryz.prog 159 #[.pointer (some ⟨tb,0,none⟩),.pointer (some ⟨ab,0,none⟩),.pointer (some ⟨fb,0,none⟩),.pointer (some ⟨ib,0,none⟩)] SlX.enc (SlX.ok M) (fun xs=>xs.map SlX.l=setsL (m+1) ah f it) w:=by
 intro l J Jx W hW hl hJ hJx hY h0
 obtain ⟨ht,⟨x,n,c,ha,hI⟩,hf,hi⟩:=h.below (hW.mono (Nat.le_refl _))
 have hB1:Below W.heap.size W (W.alloc (.cells #[.func (.yield l) #[] #[]] 66 (0,0))):=(Below.refl _ _).alloc (Nat.le_refl _) _
 have hv:=heap_new W (.cells #[.func (.yield l) #[] #[]] 66 (0,0))
 have hJ1:J [] (W.alloc (.cells #[.func (.yield l) #[] #[]] 66 (0,0))):=hJ.alloc _ h0
 have HI1:=Lib.hid (hI.below hB1)
 have ct:=cell_later hB1 (show W.cell? ⟨tb,0,none⟩=some (.int .i64 ((m:Int)+1)) by rw [cell_of_block ht];rfl)
 have ca:=cell_later hB1 (show W.cell? ⟨ab,0,none⟩=some (.slice x n c) by rw [cell_of_block ha];rfl)
 have cf:=cell_later hB1 (show W.cell? ⟨fb,0,none⟩=some (.int .i64 (f:Int)) by rw [cell_of_block hf];rfl)
 have ci:=cell_later hB1 (show W.cell? ⟨ib,0,none⟩=some (.int .i64 (it:Int)) by rw [cell_of_block hi];rfl)
 have c5:(W.alloc (.cells #[.func (.yield l) #[] #[]] 66 (0,0))).cell? ⟨W.heap.size,0,none⟩=some (.func (.yield l) #[] #[]):=by rw [cell_of_block hv];rfl
 have HL:=Lib.hid hl
 have HJ:=Lib.hid hJ
 have HJX:=Lib.hid hJx
 have HY:=Lib.hid hY
 have HIH:=Lib.hid ih
 have HMM:=Lib.hid hM
 have HB1:=Lib.hid hB1
 have HJ1:=Lib.hid hJ1
 have d0:(((m:Int)+1) == 0)=false:=by rw [beq_eq_false_iff_ne];omega
 clear hI hl hJ hJx hY ih hB1 hv hJ1 ht ha hf hi h0 h hW hM
 refine callsIn_of_wp_marks Tryz.func159 rfl trivial ?_ rfl
 simp only [Tryz.ntmps159,List.size_toArray,List.length_cons,List.length_nil,Nat.reduceAdd,Nat.reduceSub,Array.replicate_succ,Array.replicate_zero,List.push_toArray,List.append_toArray,List.nil_append,List.cons_append]
 refine (wpIn_wide (n:=0)).2 ?_
 go_wp2_with fail
 generalize (W.alloc (.cells #[.func (.yield l) #[] #[]] 66 (0,0)))=W5 at HI1 ct ca cf ci c5 HB1 HJ1 ⊢
 refine wp_loop (fun a wr => ∃ (k:Nat) (ds:List Nat) (u7 u14 u15 u16 u17 u18 u19 u20 u21 u22 u23 u24 u25 u26 u27 u28 u29 u30 u31 u32 u33 u34 u35 u36:Value),a={ tmps:=#[.func (.yield l) #[] #[],.pointer (some ⟨tb,0,none⟩),.pointer (some ⟨ab,0,none⟩),.pointer (some ⟨fb,0,none⟩),.pointer (some ⟨ib,0,none⟩),.pointer (some ⟨W.heap.size,0,none⟩),.int .i64 (k:Int),u7,.int .i64 ((m:Int)+1),.bool false,undef,undef,undef,.int .i64 (f:Int),u14,u15,u16,u17,u18,u19,u20,u21,u22,u23,u24,u25,u26,u27,u28,u29,u30,u31,u32,u33,u34,u35,u36],defers:=marks ds }∧f≤k∧k≤100∧(k≤it - m∨k=f)∧Hid (SetQ J W5 W.heap.size m ah f it k ds wr)) (fun a _=>200 - (intOf (a.tmps.getD 6 undef)).toNat) ?start ?round
 case start =>
   exact ⟨f,[],_,_,_,_,_,_,_,_,_,_,_,_,_,_,_,_,_,_,_,_,_,_,_,_,rfl,Nat.le_refl _,hf8,.inr rfl,Lib.hid ⟨⟨[],by rw [setsU_start];rfl,HJ1.out⟩,Below.refl _ _,MkD.nil _ _⟩⟩
 case round =>
   rintro a wr ⟨k,ds,u7,u14,u15,u16,u17,u18,u19,u20,u21,u22,u23,u24,u25,u26,u27,u28,u29,u30,u31,u32,u33,u34,u35,u36,rfl,hfk,hk100,hkm,HQ⟩
   have hbel:=HQ.out.2.1
   have kt:=cell_later hbel ct
   have ka:=cell_later hbel ca
   have ki:=cell_later hbel ci
   have k5:=cell_later hbel c5
   have HI2:=Lib.hid (HI1.out.below hbel)
   clear hbel
   by_cases hlt:k+(m+1)≤it
   · have d1:decide ((k:Int)≤(it:Int) - ((m:Int)+1))=true:=decide_eq_true (by omega)
     have e1:IntKind.i64.wrap ((k:Int)+1)=((k+1:Nat):Int):=by rw [IntWalk.i64_in _ (by omega)];omega
     have e2:IntKind.i64.wrap (m:Int)=(m:Int):=by rw [IntWalk.i64_in _ (by omega)]
     have HSETS:Hid (∀ (a:Option Addr) (n c:Nat) (w:World),IsI w a n c (ah ++ [(k:Int)])→Calls Tryz.prog 118 #[.slice a n c,.int .i64 (IntKind.i64.wrap ((k:Int)+1)),.int .i64 (it:Int),.int .i64 (IntKind.i64.wrap (m:Int))] w fun e w' => ∃ tb ab fb ib,e=.returned (.func (.func 159) #[] #[.pointer (some ⟨tb,0,none⟩),.pointer (some ⟨ab,0,none⟩),.pointer (some ⟨fb,0,none⟩),.pointer (some ⟨ib,0,none⟩)])∧Below w.heap.size w w'∧SetB w' tb ab fb ib (ah ++ [(k:Int)]) (k+1) it m):=Lib.hid (fun a n c w hI=>by
       rw [e1,e2];exact sets_any a n c _ (k+1) it m w hI)
     have hd0:=(Below.refl wr.heap.size wr).drew
     have hdA:∀ o,Below wr.heap.size wr (wr.alloc o).drew:=fun o=>((Below.refl _ _).alloc (Nat.le_refl _) o).drew
     have HAL:Hid (ah.length≤19):=Lib.hid (by omega)
     clear e1 e2
     go_wp2_with fail
     go_region_held3 (fun w' => w'.cell? ⟨ab, 0, none⟩ = some (.slice x n c) ∧ w'.cell? ⟨ib, 0, none⟩ = some (.int .i64 (it : Int)) ∧ w'.cell? ⟨tb, 0, none⟩ = some (.int .i64 ((m : Int) + 1))) (first
           | with_reducible exact ⟨cell_later hB4 ka,cell_later hB4 ki,cell_later hB4 kt⟩
           | with_reducible exact ⟨cell_later hB3 ka,cell_later hB3 ki,cell_later hB3 kt⟩
           | with_reducible exact ⟨cell_later (hB1.alloc hB1.size _) ka,cell_later (hB1.alloc hB1.size _) ki,cell_later (hB1.alloc hB1.size _) kt⟩
           | with_reducible exact ⟨cell_later hB1 ka,cell_later hB1 ki,cell_later hB1 kt⟩
           | with_reducible exact ⟨cell_later (hdA _) ka,cell_later (hdA _) ki,cell_later (hdA _) kt⟩
           | with_reducible exact ⟨cell_later hd0 ka,cell_later hd0 ki,cell_later hd0 kt⟩) (first
         | (go_at_call 57;((with_reducible refine (iclone_any x n c ah wr.drew (HI2.out.below hd0) (by have:=HAL.out;omega)).mono ?_);rintro e w1 ⟨a1,c1,rfl,hb1,ho1⟩;have hB1:Below wr.heap.size wr w1:=hd0.trans (hb1.mono hd0.size)))
         | (go_at_call 57;((with_reducible refine (iclone_any x n c ah _ (HI2.out.below (hdA _)) (by have:=HAL.out;omega)).mono ?_);rintro e w1 ⟨a1,c1,rfl,hb1,ho1⟩;have hB1:Below wr.heap.size wr w1:=(hdA _).trans (hb1.mono (hdA _).size)))
         | (refine step_append_any rowInt rfl (.tmp 22) (.tmp 24) rfl wr.heap.size _ ah.length (icells ah) rfl (owns_low (ho1.alloc _) hd0.size) (some ⟨w1.heap.size,0,none⟩) 1 1 [.int .i64 (k:Int)] rfl rfl (At.one w1 _ _) (one_cell _ rfl) (by have:=HAL.out;unfold maxLen;omega) (by have:=HAL.out;omega) (hB1.alloc hB1.size _).size ?_;intro a3' c3' w3 ho3 hg3 _;have hB3:Below wr.heap.size wr w3:=(hB1.alloc hB1.size _).grown hg3 (hB1.alloc hB1.size _).size (fun i hi=>owns_base (owns_low ho1 hd0.size) i hi);have hI3:IsI w3 a3' (ah.length+1) c3' (ah ++ [(k:Int)]):=isI_of_owns (by rw [icells_append];exact ho3) (by simp))
         | (refine step_append_any rowInt rfl (.tmp 22) (.tmp 24) rfl wr.heap.size _ ah.length (icells ah) rfl (owns_low ho1 (by simp)) (some ⟨wr.heap.size,0,none⟩) 1 1 [.int .i64 (k:Int)] rfl rfl ((At.one wr _ _).drew.later hb1) (one_cell _ rfl) (by have:=HAL.out;unfold maxLen;omega) (by have:=HAL.out;omega) hB1.size ?_;intro a3' c3' w3 ho3 hg3 _;have hB3:Below wr.heap.size wr w3:=hB1.grown hg3 hB1.size (fun i hi=>owns_base (owns_low ho1 (by simp)) i hi);have hI3:IsI w3 a3' (ah.length+1) c3' (ah ++ [(k:Int)]):=isI_of_owns (by rw [icells_append];exact ho3) (by simp))
         | (go_at_call 118;((with_reducible refine (HSETS.out a3' (ah.length+1) c3' w3 hI3).mono ?_);rintro e w4 ⟨tb4,ab4,fb4,ib4,rfl,hb4,hs4⟩;have hB4:Below wr.heap.size wr w4:=hB3.trans (hb4.mono hB3.size)))
         | fail)
     all_goals
       have HB4:=Lib.hid hB4
       have HS4:=Lib.hid hs4
       have HK5:=Lib.hid k5
       clear hB4 hs4 hI3 hB3 ho3 hg3 ho1 hB1 hb1 hb4 kt ka ki k5 hd0 hdA HSETS HI2
       go_wp2_with fail
       obtain ⟨⟨pre,hpre,hJp⟩,hbel,hmk⟩:=HQ.out
       have HPRE:=Lib.hid hpre
       have hb54:=hbel.trans (HB4.out.mono hbel.size)
       have hJ4:=own_below HJ.out hJp HB4.out
       have hsz4:W.heap.size<w4.heap.size:=Nat.lt_of_lt_of_le (World.block_lt_of_cell? _ _ c5) hb54.size
       have hmk4:=hmk.below HB4.out
       refine wp_rangeR (X:=SlX) (gf:=159) (lb:=#[.pointer (some ⟨tb4,0,none⟩),.pointer (some ⟨ab4,0,none⟩),.pointer (some ⟨fb4,0,none⟩),.pointer (some ⟨ib4,0,none⟩)]) rfl (enters_of Tryz.func159 (by kernel_rfl) rfl)
         (HIH.out (ah ++ [(k:Int)]) (k+1) w4 tb4 ab4 fb4 ib4 (by have:=HAL.out;simp;omega) (by omega) HS4.out (fun l hl=>HMM.out l (setsL_mem hfk hlt hl))) (Below.refl _ _) (fun _=>rfl) (SlX.put M)
         (fun q W' => J (pre ++ q) W'∧Below W5.heap.size W5 W'∧MkD W.heap.size ds W')
         (fun c q W' => c=Code.ret∧(∃ p,Jx p W')∧MkD W.heap.size ds W')
         (OwnFrom.and (own_pre (OwnFrom.mono HJ.out (Nat.le_of_lt hsz4)) pre) (OwnFrom.and (ownFrom_below (Nat.le_refl _) hb54.size) (own_marks _ _ _ hmk4.lt)))
         (fun c=>own_stop c (OwnFrom.mono HJX.out (Nat.le_of_lt hsz4)) hmk4.lt)
         ⟨by rw [List.append_nil];exact hJ4,hb54,hmk4⟩ ?_ ?_ ?_ ?_ ?_
       rotate_left
       · intro l' y Wx K hK
         dsimp only [SlX.enc]
         gi_wp2
         exact hK
       · rintro l' q y Wx hsz ⟨hj,hb,hm'⟩ hy0
         obtain ⟨fn,tmps,assign,body,hy,hR⟩:=HY.out (pre ++ q) y Wx (by omega) hj hy0
         have c5':=cell_later hb c5
         have HR:=Lib.hid (RoundIn.inR l' hR)
         have HBx:=Lib.hid hb
         have HMx:=Lib.hid hm'
         clear hR hb hm' hj hy0
         dsimp only [SlX.enc] at hy
         gi_wp2_with fail
         refine ⟨rfl,?_⟩
         refine HR.out.mono ?_
         rintro e W3 (⟨rfl,hJ3,hk3⟩ | ⟨rfl,hJx3,hk3⟩)
         · have HE:Hid (Below Wx.heap.size Wx W3∧J (pre ++ (q ++ [y])) W3∧Below W5.heap.size W5 W3∧MkD W.heap.size ds W3):=Lib.hid ⟨hk3,by rw [← List.append_assoc];exact hJ3,HBx.out.trans (hk3.mono HBx.out.size),HMx.out.below hk3⟩
           clear hJ3 hk3
           gi_wp2_with fail
           exact HE.out
         · have HE:Hid (KeepsFrom w4.heap.size Wx W3∧(∃ p,Jx p W3)∧MkD W.heap.size ds W3):=Lib.hid ⟨keeps_mono hk3 (by have:=HL.out;omega),⟨_,hJx3⟩,HMx.out.keeps hk3 (by have:=HL.out;omega)⟩
           clear hJx3 hk3
           gi_wp2_with fail
           exact ⟨HE.out.1,rfl,HE.out.2⟩
       · rintro D ys Wd hD hS ⟨hj,hb,hm'⟩ hK
         have HE:Hid (SetQ J W5 W.heap.size m ah f it (k+1) (D :: ds) Wd):=Lib.hid ⟨⟨pre ++ ys,by rw [List.map_append,HPRE.out,hS,setsU_succ _ _ _ _ _ hfk],hj⟩,hb,hm'.cons hK (Nat.le_of_lt hsz4) hD hmk4.lt⟩
         clear hS hj hb hm' hK
         go_wp2_with fail
         refine ⟨⟨k+1,D :: ds,_,_,_,_,_,_,_,_,_,_,_,_,_,_,_,_,_,_,_,_,_,_,_,_,rfl,by omega,by omega,.inl (by omega),HE⟩,?_⟩
         simp [intOf]
         omega
       · rintro D cc q Wd hD ⟨rfl,⟨p,hp⟩,hm'⟩ hK
         have HE:=Lib.hid (hm'.cons hK (Nat.le_of_lt hsz4) hD hmk4.lt)
         have HP:=Lib.hid hp
         clear hp hK hm'
         go_wp2_with fail
         exact leaves_marks (B:=W.heap.size) (fun W' => ∃ p,Jx p W') (fun W' l' ⟨p,hp⟩ hl' ho=>⟨p,HJX.out.putObj _ hp hl' ho rfl⟩) (fun W' hW' => ⟨_,results_none rfl _ _ _,⟨_,rfl⟩,.inr hW'⟩) (D :: ds) Wd HE.out ⟨p,HP.out⟩
   · have d1:decide ((k:Int)≤(it:Int) - ((m:Int)+1))=false:=decide_eq_false (by omega)
     obtain ⟨⟨pre,hpre,hJp⟩,hbel,hmk⟩:=HQ.out
     have HS:Hid (pre.map SlX.l=setsL (m+1) ah f it):=Lib.hid (by rw [hpre];exact setsL_end m ah f it k hfk (by omega) hkm)
     have HP:=Lib.hid hJp
     have HM:=Lib.hid hmk
     clear hpre hJp hbel hmk
     go_wp2_with fail
     exact leaves_marks (B:=W.heap.size) (fun W' => J pre W') (fun W' l' hp hl' ho=>HJ.out.putObj _ hp hl' ho rfl) (fun W' hW' => ⟨_,results_none rfl _ _ _,⟨_,rfl⟩,.inl ⟨pre,HS.out,hW'⟩⟩) ds wr HM.out HP.out
theorem sets1_ok (M:List Int→Prop) (it:Nat) (hit:it≤8):∀ (m:Nat),m≤8→∀ (ah:List Int) (f:Nat) (w:World) (tb ab fb ib:Nat),ah.length≤20 - m→f≤100→SetB w tb ab fb ib ah f it m→(∀ l ∈ setsL m ah f it,M l) →
   SeqR Tryz.prog 159 #[.pointer (some ⟨tb,0,none⟩),.pointer (some ⟨ab,0,none⟩),.pointer (some ⟨fb,0,none⟩),.pointer (some ⟨ib,0,none⟩)] SlX.enc (SlX.ok M) (fun xs=>xs.map SlX.l=setsL m ah f it) w
 | 0,_,ah,f,w,tb,ab,fb,ib,_,_,h,hM=>sets1_zero M it ah f w tb ab fb ib h hM
 | m+1,hm,ah,f,w,tb,ab,fb,ib,h1,h2,h,hM=>sets1_succ M it m hit (by omega) (sets1_ok M it hit m (by omega)) ah f w tb ab fb ib h1 h2 h hM
end
open Go.RowKit
set_option linter.unusedVariables false
set_option linter.unusedSimpArgs false
def wthB (g:List (List Int)) (l:List Int) (i:Int):Bool:=(g.getD i.toNat []).all fun k=>decide (k ∈ l)
def wthL (g:List (List Int)) (sm l:List Int):Nat:=(sm.filter (wthB g l)).length
theorem wthL_le (g:List (List Int)) (sm l:List Int):wthL g sm l≤sm.length:=List.length_filter_le _ _
theorem few11_any (bx:Nat) (x:Option Addr) (n c:Nat) (l:List Int) (k:Int) (w:World) (hx:w.cell? ⟨bx,0,none⟩=some (.slice x n c)) (h:IsI w x n c l) :
   Calls Tryz.prog 116 #[.int .i64 k,.pointer (some ⟨bx,0,none⟩)] w fun e w' => e=.returned (.bool (!decide (k ∈ l)))∧Below w.heap.size w w':=by
 have HI:=Lib.hid h
 clear h
 go_enter Tryz.func116,Tryz.ntmps116
 go_wp2_with fail
 refine (containsI_any k x n c l w HI.out).mono ?_;rintro e w1 ⟨rfl,rfl⟩
 go_wp2_with fail
 go_ret
 exact ⟨rfl,Below.refl _ _⟩
theorem wth_any {near row l:List Int} (h:∀ k,k ∈ near↔k ∈ row):(near.any fun k => !decide (k ∈ l)) = !(row.all fun k=>decide (k ∈ l)):=by
 have e:(near.any fun k => !decide (k ∈ l))=(row.any fun k => !decide (k ∈ l)):=by
   rw [Bool.eq_iff_iff,List.any_eq_true,List.any_eq_true]
   exact ⟨fun ⟨k,hk,hn⟩ => ⟨k,(h k).1 hk,hn⟩,fun ⟨k,hk,hn⟩ => ⟨k,(h k).2 hk,hn⟩⟩
 rw [e,List.all_eq_not_any_not,Bool.not_not]
set_option maxRecDepth 100000 in
set_option maxHeartbeats 8000000 in
theorem fwithin_any (sb gb ib:Nat) (a sa la:Option Addr) (n c sn sc ln lc:Nat) (g:List (List Int)) (items:Nat) (sm l:List Int) (w:World)
   (h1:w.heap[sb]?=some (.cells #[.slice sa sn sc] 22 (0,0))) (h2:w.heap[gb]?=some (.cells #[.slice a n c] 23 (0,0))) (h3:w.heap[ib]?=some (.cells #[.int .i64 (items:Int)] 3 (0,0)))
   (hI:IsII w a n c g) (hg:GOk g items) (hs:IsI w sa sn sc sm) (hr:RisL sm g.length) (hl:IsI w la ln lc l) :
   Calls Tryz.prog 114 #[.slice la ln lc,.pointer (some ⟨sb,0,none⟩),.pointer (some ⟨gb,0,none⟩),.pointer (some ⟨ib,0,none⟩)] w fun e w' => e=.returned (.int .i64 (wthL g sm l))∧Below w.heap.size w w':=by
 obtain rfl:=hs.1
 have hsl:=hs.len
 have hb0:Below w.heap.size w (w.alloc (.cells #[.slice la ln lc] 22 (0,0))):=(Below.refl _ _).alloc (Nat.le_refl _) _
 have hv:=heap_new w (.cells #[.slice la ln lc] 22 (0,0))
 have c1:=cell_later hb0 (show w.cell? ⟨sb,0,none⟩=some (.slice sa sm.length sc) by rw [cell_of_block h1];rfl)
 have c2:=cell_later hb0 (show w.cell? ⟨gb,0,none⟩=some (.slice a n c) by rw [cell_of_block h2];rfl)
 have c3:=cell_later hb0 (show w.cell? ⟨ib,0,none⟩=some (.int .i64 (items:Int)) by rw [cell_of_block h3];rfl)
 have c4:(w.alloc (.cells #[.slice la ln lc] 22 (0,0))).cell? ⟨w.heap.size,0,none⟩=some (.slice la ln lc):=by rw [cell_of_block hv];rfl
 have HI:=Lib.hid (hI.below hb0)
 have HS:=Lib.hid (hs.below hb0)
 have HL:=Lib.hid (hl.below hb0)
 have HG:=Lib.hid hg
 have HR:=Lib.hid hr
 have HB0:=Lib.hid hb0
 clear h1 h2 h3 hI hg hs hr hl hb0 hv
 go_enter Tryz.func114,Tryz.ntmps114
 go_wp2_with fail
 generalize w.alloc (.cells #[.slice la ln lc] 22 (0,0))=W at c1 c2 c3 c4 HI HS HL HB0 ⊢
 go_wp2_with fail
 go_loopw [5,12] (fun q i wr => ∃ j:Nat,j≤sm.length∧i=.int .i64 (j:Int)∧q=.int .i64 (wthL g (sm.take j) l)∧Hid (Below W.heap.size W wr)) (fun _ i _=>sm.length - (intOf i).toNat)
 case atStart=>exact ⟨0,Nat.zero_le _,rfl,rfl,Lib.hid (Below.refl _ _)⟩
 case round =>
   obtain ⟨j,hj,rfl,rfl,HQ⟩:=hrel
   by_cases hlt:j<sm.length
   · obtain ⟨b,off,rfl,hblt,ck0⟩:=HS.out.at j hlt
     have ck:=cell_later HQ.out ck0
     have k2:=cell_later HQ.out c2
     have k3:=cell_later HQ.out c3
     have hzr:=HR.out.at j hlt
     obtain ⟨p,hp⟩:=Int.eq_ofNat_of_zero_le hzr.1
     have hwl:=Nat.le_trans (wthL_le g (sm.take j) l) (show (sm.take j).length≤j by simp;omega)
     have HW:Hid (wthL g (sm.take (j+1)) l=wthL g (sm.take j) l+if wthB g l (p:Int) then 1 else 0):=Lib.hid (by
       unfold wthL
       rw [List.take_succ_eq_append_getElem hlt,hp,List.filter_append,List.length_append,List.filter_cons]
       split <;> simp)
     rw [hp] at ck
     have hq0:=Below.alloc (o:=.cells #[.int .i64 (p:Int)] 3) (Below.refl wr.heap.size wr) (Nat.le_refl _)
     have HI2:=Lib.hid (HI.out.below (HQ.out.trans (hq0.mono HQ.out.size)))
     have hone:IsI (wr.alloc (.cells #[.int .i64 (p:Int)] 3)) (some ⟨wr.heap.size,0,none⟩) 1 1 [(p:Int)]:=IsI.fresh wr [(p:Int)] _ _ _ rfl 1 1 rfl rfl (by show 1≤maxLen;decide)
     have HO:=Lib.hid hone
     have HRP:Hid (RisL [(p:Int)] g.length):=Lib.hid ⟨by simp,fun z hz=>by rw [List.mem_singleton.1 hz];omega⟩
     have HB:=Lib.hid (HQ.out.trans (hq0.mono HQ.out.size))
     clear ck0 hzr hp hq0 hone
     go_wp2_with fail
     refine (near_any a (some ⟨wr.heap.size,0,none⟩) n c 1 1 g items [(p:Int)] _ HI2.out HG.out HO.out HRP.out).mono ?_
     rintro e w2 ⟨a2,c2',near,rfl,hb2,hn2,_,hmem⟩
     have HB2:=Lib.hid (HB.out.trans (hb2.mono HB.out.size))
     have k4:=cell_later HB2.out c4
     have HN:=Lib.hid hn2
     have HL2:=Lib.hid (HL.out.below HB2.out)
     have HA:Hid ((near.any fun k => !decide (k ∈ l)) = !wthB g l (p:Int)):=Lib.hid (wth_any (fun k=>by
       rw [hmem k]
       constructor
       · rintro ⟨i,hi,hk⟩
         have:i=p:=by have:=List.mem_singleton.1 hi;omega
         rw [this] at hk;simpa using hk
       · intro hk;exact ⟨p,by simp,by simpa using hk⟩))
     clear hb2 hn2 hmem k2 k3 ck
     go_wp2_with fail
     refine (conI_gen 116 #[.pointer (some ⟨w.heap.size,0,none⟩)] (fun k => !decide (k ∈ l)) a2 near.length c2' near w2 HN.out (fun x W' => (enters_of Tryz.func116 (by kernel_rfl) rfl) _ _) (fun z hz W' hW' => few11_any w.heap.size la ln lc l z W' (cell_later hW' k4) (HL2.out.below hW'))).mono ?_
     rintro e w3 ⟨rfl,hb3⟩
     have HQ3:=Lib.hid (HB2.out.trans (hb3.mono HB2.out.size))
     rw [HA.out]
     clear hb3 k4
     cases hq:wthB g l (p:Int) with
     | true =>
       rw [hq] at HW
       go_wp2_with fail
       go_roundw
       case rel=>exact ⟨j+1,by omega,by go_num,by rw [HW.out];go_num,HQ3⟩
       case measure=>simp [intOf];omega
     | false =>
       rw [hq] at HW
       go_wp2_with fail
       go_roundw
       case rel=>exact ⟨j+1,by omega,by go_num,by rw [HW.out];rfl,HQ3⟩
       case measure=>simp [intOf];omega
   · have hjj:j=sm.length:=by omega
     subst hjj
     have HF:=Lib.hid (HB0.out.trans (HQ.out.mono HB0.out.size))
     have HT:Hid (sm.take sm.length=sm):=Lib.hid (List.take_length)
     rw [HT.out]
     go_wp2_with fail
     go_ret
     exact ⟨rfl,HF.out⟩
end Go.Proofs.YtmmmjohoihpbeaaGreat
