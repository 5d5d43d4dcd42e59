/- The package markets: ordered;conditions: those typed. -/
import Derived.Test.YtmmmjohoihpbeaaGreatQOGStOrdGStRecJwAJwBJwGJwEq
import Derived.ChangeKeysEq
namespace Go.Proofs.YtmmmjohoihpbeaaGreat
open Go.RowKit
set_option linter.unusedVariables false
set_option linter.unusedSimpArgs false
def cntL (l:List Int):List Value:=(List.range 8).map fun i:Nat=>Value.int .i64 (l.count (i:Int):Int)
def cntA (l:List Int):Array Value:=(cntL l).toArray
def oncL (k:Nat):List Value:=(List.range 8).map fun i:Nat=>Value.int .i64 (if i<k then 1 else 0)
def oncA (k:Nat):Array Value:=(oncL k).toArray
theorem run_eqItems_ints {P:Program} (d:Nat) {e:TypeId} {kk:IntKind} (hp:P.plainKey e=true) (hc:P.cellsOf e=1) (he:P.underlying e=some (.int kk)) (X Y:Nat→Int) (xs ys:Array Value) (w:World):∀ (is:List Nat),(∀ i ∈ is,xs[i]?=some (.int .i64 (X i))∧ys[i]?=some (.int .i64 (Y i))) →
   (Op.eqItems (d+1) e (P.cellsOf e) xs ys is).run P w=.ok (is.all fun i=>X i == Y i) w
 | [],_=>by simp [Op.eqItems]
 | i :: is,h=>by
   obtain ⟨hx,hy⟩:=h i List.mem_cons_self
   have ih:=run_eqItems_ints d hp hc he X Y xs ys w is (fun j hj=>h j (List.mem_cons_of_mem _ hj))
   have p1:=run_part_plain w hp (xs:=xs) (off:=i*P.cellsOf e) (v:=.int .i64 (X i)) (by rw [hc,Nat.mul_one];exact hx)
   have p2:=run_part_plain w hp (xs:=ys) (off:=i*P.cellsOf e) (v:=.int .i64 (Y i)) (by rw [hc,Nat.mul_one];exact hy)
   have p3:=run_equalIn_int w d e .i64 kk (X i) (Y i) he
   simp only [Op.eqItems,Sem.run_bind,p1,p2,p3,Result.andThen_ok]
   cases hq:(X i == Y i) with
   | false=>simp [hq]
   | true=>simp [hq,ih]
theorem info_8:(Tryz.prog.info? 80).map (·.size)=some 8:=by kernel_rfl
theorem cntA_get (l:List Int) (i:Nat) (h:i<8):(cntA l)[i]?=some (.int .i64 (l.count (i:Int):Int)):=by simp [cntA,cntL,h]
theorem oncA_get (k:Nat) (i:Nat) (h:i<8):(oncA k)[i]?=some (.int .i64 (if i<k then 1 else 0)):=by simp [oncA,oncL,h]
theorem cntA_set (l:List Int) (n:Nat) (h:n<8):(cntA l).setIfInBounds n (.int .i64 ((l.count (n:Int):Int)+1))=cntA (l ++ [(n:Int)]):=by
 apply Array.ext
 · simp [cntA,cntL]
 · intro i h1 h2
   have hi:i<8:=by simpa [cntA,cntL] using h1
   by_cases hin:n=i
   · subst hin
     simp [cntA,cntL,List.count_append]
   · have:¬ ((n:Int)=(i:Int)):=by omega
     simp [cntA,cntL,List.count_append,List.count_singleton,hin,this]
theorem oncA_set (k:Nat) (h:k<8):(oncA k).setIfInBounds k (.int .i64 1)=oncA (k+1):=by
 apply Array.ext
 · simp [oncA,oncL]
 · intro i h1 h2
   have hi:i<8:=by simpa [oncA,oncL] using h1
   by_cases hik:k=i
   · subst hik
     simp [oncA,oncL]
   · simp [oncA,oncL,hik]
     by_cases h3:i<k
     · rw [if_pos h3,if_pos (by omega)]
     · rw [if_neg h3,if_neg (by omega)]
theorem nodup_count {l:List Int} (h:l.Nodup) {z:Int} (hz:z ∈ l):l.count z=1:=by
 have h1:l.count z≤1:=List.nodup_iff_count.1 h z
 have h2:0<l.count z:=List.count_pos_iff.2 hz
 omega
theorem cnt_ord {many:Nat} {l:List Int} (hm:many≤8) (hl:∀ z ∈ l,0≤z∧z<many):(cntA l=oncA many)↔ordC many l=true:=by
 constructor
 · intro h
   have hc:∀ i,i<many→l.count (i:Int)=1:=fun i hi=>by
     have h1:=cntA_get l i (by omega)
     rw [h,oncA_get many i (by omega),if_pos hi] at h1
     have:=(Value.int.inj (Option.some.inj h1)).2
     omega
   have hp:l.Perm (allC many):=by
     rw [List.perm_iff_count]
     intro z
     by_cases hz:0≤z∧z<many
     · obtain ⟨i,rfl⟩:=Int.eq_ofNat_of_zero_le hz.1
       rw [hc i (by omega)]
       have hmem:(i:Int) ∈ allC many:=List.mem_map.2 ⟨i,List.mem_range.2 (by omega),rfl⟩
       rw [nodup_count (allC_nodup many) hmem]
     · rw [List.count_eq_zero.2 (fun h=>hz (hl z h)),List.count_eq_zero.2 (fun h=>by
         obtain ⟨i,hi,rfl⟩:=List.mem_map.1 h
         have:=List.mem_range.1 hi
         exact hz ⟨Int.natCast_nonneg _,by show ((i:Nat):Int)<many;omega⟩)]
   unfold ordC
   rw [Bool.and_eq_true,decide_eq_true_eq,List.all_eq_true]
   refine ⟨by rw [hp.length_eq,allC_length],fun i hi=>decide_eq_true (hp.mem_iff.2 ?_)⟩
   exact List.mem_map.2 ⟨i,hi,rfl⟩
 · intro h
   have hp:l.Perm (allC many):=by rw [← ordC_sorted h];exact (sortI_perm l).symm
   unfold cntA oncA cntL oncL
   congr 1
   refine List.map_congr_left fun i hi => ?_
   rw [hp.count_eq]
   congr 1
   by_cases him:i<many
   · rw [if_pos him]
     have hmem:(i:Int) ∈ allC many:=List.mem_map.2 ⟨i,List.mem_range.2 him,rfl⟩
     rw [nodup_count (allC_nodup many) hmem];rfl
   · rw [if_neg him, List.count_eq_zero.2 (fun h => by
         obtain ⟨j,hj,e⟩:=List.mem_map.1 h
         have:=List.mem_range.1 hj
         have e':((j:Nat):Int)=(i:Int):=e
         omega)];rfl
set_option maxRecDepth 100000 in
set_option maxHeartbeats 8000000 in
theorem mord_any (a:Option Addr) (n cap:Nat) (l:List Int) (many:Nat) (hm:many≤8) (w:World) (hI:IsI w a n cap l) :
   Calls Tryz.prog 43 #[.slice a n cap,.int .i64 many] w fun e w' => e=.returned (.bool (ordC many l))∧Below w.heap.size w w':=by
 obtain rfl:=hI.1
 obtain ⟨hb0,m0,m1⟩:=alloc2_facts w (.cells #[.int .i64 0,.int .i64 0,.int .i64 0,.int .i64 0,.int .i64 0,.int .i64 0,.int .i64 0,.int .i64 0] 80 (0,0)) (.cells #[.int .i64 0,.int .i64 0,.int .i64 0,.int .i64 0,.int .i64 0,.int .i64 0,.int .i64 0,.int .i64 0] 80 (0,0))
 have HI:=Lib.hid hI
 clear hI
 go_enter Tryz.func43,Tryz.ntmps43
 go_wp2_with fail
 generalize ((w.alloc (.cells #[.int .i64 0,.int .i64 0,.int .i64 0,.int .i64 0,.int .i64 0,.int .i64 0,.int .i64 0,.int .i64 0] 80)).alloc (.cells #[.int .i64 0,.int .i64 0,.int .i64 0,.int .i64 0,.int .i64 0,.int .i64 0,.int .i64 0,.int .i64 0] 80))=W at hb0 m0 m1 ⊢
 have m0':W.heap[w.heap.size]?=some (.cells (cntA []) 80 (0,0)):=m0
 have m1':W.heap[w.heap.size+1]?=some (.cells (oncA 0) 80 (0,0)):=m1
 have HB0:=Lib.hid hb0
 have HM0:=Lib.hid m0'
 have HM1:=Lib.hid m1'
 clear hb0 m0 m1 m0' m1'
 obtain ⟨N,hN⟩:∃ N,N=many:=⟨_,rfl⟩
 have HN:=Lib.hid hN
 clear hN
 go_loopw [11] (fun i wr => ∃ k:Nat,k≤many∧i=.int .i64 k∧Hid (Below w.heap.size w wr∧wr.heap[w.heap.size]?=some (.cells (cntA []) 80 (0,0))∧wr.heap[w.heap.size+1]?=some (.cells (oncA k) 80 (0,0)))) (fun i _=>N - (intOf i).toNat)
 case atStart=>exact ⟨0,Nat.zero_le _,rfl,Lib.hid ⟨HB0.out,HM0.out,HM1.out⟩⟩
 case round =>
   clear HB0 HM0 HM1
   obtain ⟨k,hk,rfl,HS⟩:=hrel
   by_cases hlt:k<many
   · have o1:wr.heap[w.heap.size+1]?=some (.cells (oncA k) 80 (0,0)):=HS.out.2.2
     have yf:=blk_free (i:=k) o1
     have y0:wr.cell? ⟨w.heap.size+1,k,none⟩=some (.int .i64 (if k<k then 1 else 0)):=by rw [cell_of_block o1];exact oncA_get k k (by omega)
     have hs:=oncA_set k (by omega)
     have h8:=heap_setCell_same wr (w.heap.size+1) k _ _ (.int .i64 1) o1
     rw [hs] at h8
     have HE:Hid (Below w.heap.size w (wr.setCell ⟨w.heap.size+1,k,none⟩ (.int .i64 1))∧(wr.setCell ⟨w.heap.size+1,k,none⟩ (.int .i64 1)).heap[w.heap.size]?=some (.cells (cntA []) 80 (0,0))∧(wr.setCell ⟨w.heap.size+1,k,none⟩ (.int .i64 1)).heap[w.heap.size+1]?=some (.cells (oncA (k+1)) 80 (0,0))) :=
       Lib.hid ⟨HS.out.1.setCell (Nat.le_succ _) _,(Below.heap_setCell _ _ _ _ (by show w.heap.size≠w.heap.size+1;omega)).trans HS.out.2.1,h8⟩
     clear h8 hs o1 HS
     go_wp2_with fail
     go_roundw
     case rel=>exact ⟨k+1,by omega,by go_num,HE⟩
     case measure=>have:=HN.out;simp [intOf];omega
   · have hkk:k=many:=by omega
     subst hkk
     go_wp2_with fail
     have HC:Hid (∀ j (h:j<l.length),∃ b off,a=some ⟨b,off,none⟩∧b<w.heap.size∧w.cell? ⟨b,off+j,none⟩=some (.int .i64 l[j])):=Lib.hid (fun j hj=>by
       rcases HI.out.2.2.2 with ⟨h,_⟩ | ⟨b,off,h1,h2,h3⟩
       · rw [h] at hj;exact absurd hj (by simp)
       · exact ⟨b,off,h1,h2,h3 j hj⟩)
     have hlm:l.length≤9223372036854775807:=by have:=HI.out.2.1;have:=HI.out.2.2.1;unfold maxLen at this;omega
     clear HI
     obtain ⟨M,hM⟩:∃ M,M=l.length:=⟨_,rfl⟩
     have HM:=Lib.hid hM
     clear hM
     go_loopw [19] (fun i wq => ∃ j:Nat,j≤l.length∧i=.int .i64 j∧Hid (Below w.heap.size w wq∧wq.heap[w.heap.size]?=some (.cells (cntA (l.take j)) 80 (0,0))∧wq.heap[w.heap.size+1]?=some (.cells (oncA k) 80 (0,0))∧∀ z ∈ l.take j,0≤z∧z<k)) (fun i _=>M - (intOf i).toNat)
     case atStart=>exact ⟨0,Nat.zero_le _,rfl,Lib.hid ⟨HS.out.1,HS.out.2.1,HS.out.2.2,by simp⟩⟩
     case round =>
       clear HS
       obtain ⟨j,hj,rfl,HS⟩:=hrel
       by_cases hlt:j<l.length
       · obtain ⟨b,off,rfl,hb,hcell⟩:=HC.out j hlt
         have ck:wr.cell? ⟨b,off+j,none⟩=some (.int .i64 l[j]):=(HS.out.1.cell (p:=⟨b,off+j,none⟩) hb).trans hcell
         have ht:l.take (j+1)=l.take j ++ [l[j]]:=List.take_succ_eq_append_getElem hlt
         have hmem:l[j] ∈ l:=List.getElem_mem hlt
         have HT:=Lib.hid ht
         have HMEM:=Lib.hid hmem
         clear ht hmem hcell
         generalize l[j]=z at ck HT HMEM
         by_cases hz0:z<0
         · have d1:decide (z<0)=true:=decide_eq_true hz0
           have HB:Hid (ordC k l=false):=Lib.hid (by
             rw [Bool.eq_false_iff];intro e
             have:=(ordC_bd e).2 z HMEM.out;omega)
           clear hz0
           go_wp2_with fail
           go_ret
           exact ⟨by rw [HB.out];rfl,HS.out.1⟩
         · by_cases hzk:(k:Int)≤z
           · have d1:decide (z<0)=false:=decide_eq_false hz0
             have d2:decide ((k:Int)≤z)=true:=decide_eq_true hzk
             have HB:Hid (ordC k l=false):=Lib.hid (by
               rw [Bool.eq_false_iff];intro e
               have:=(ordC_bd e).2 z HMEM.out;omega)
             clear hz0 hzk
             go_wp2_with fail
             go_ret
             exact ⟨by rw [HB.out];rfl,HS.out.1⟩
           · obtain ⟨q,rfl⟩:=Int.eq_ofNat_of_zero_le (show 0≤z by omega)
             have d1:decide ((q:Int)<0)=false:=decide_eq_false hz0
             have d2:decide ((k:Int)≤(q:Int))=false:=decide_eq_false hzk
             have d3:decide (k≤q)=false:=decide_eq_false (by omega)
             have hq8:q<8:=by omega
             have HQK:Hid (q<k):=Lib.hid (by omega)
             have o1:wr.heap[w.heap.size]?=some (.cells (cntA (l.take j)) 80 (0,0)):=HS.out.2.1
             have yf:=blk_free (i:=q) o1
             have y0:wr.cell? ⟨w.heap.size,q,none⟩=some (.int .i64 ((l.take j).count (q:Int):Int)):=by rw [cell_of_block o1];exact cntA_get _ q hq8
             have hcnt:(l.take j).count (q:Int)≤j:=Nat.le_trans List.count_le_length (by rw [List.length_take];omega)
             have hs:=cntA_set (l.take j) q hq8
             rw [← HT.out] at hs
             obtain ⟨ct,hct⟩:∃ ct,ct=(l.take j).count (q:Int):=⟨_,rfl⟩
             rw [← hct] at y0 hs hcnt
             clear hct
             have h8:=heap_setCell_same wr w.heap.size q _ _ (.int .i64 ((ct:Int)+1)) o1
             rw [hs] at h8
             have HQK':=HQK
             have HE:Hid (Below w.heap.size w (wr.setCell ⟨w.heap.size,q,none⟩ (.int .i64 ((ct:Int)+1)))∧(wr.setCell ⟨w.heap.size,q,none⟩ (.int .i64 ((ct:Int)+1))).heap[w.heap.size]?=some (.cells (cntA (l.take (j+1))) 80 (0,0))∧(wr.setCell ⟨w.heap.size,q,none⟩ (.int .i64 ((ct:Int)+1))).heap[w.heap.size+1]?=some (.cells (oncA k) 80 (0,0))∧∀ z ∈ l.take (j+1),0≤z∧z<k) :=
               Lib.hid ⟨HS.out.1.setCell (Nat.le_refl _) _,h8,(Below.heap_setCell _ _ _ _ (by show w.heap.size+1≠w.heap.size;omega)).trans HS.out.2.2.1,fun z hz=>by
                 rw [HT.out] at hz
                 rcases List.mem_append.1 hz with h | h
                 · exact HS.out.2.2.2 z h
                 · rw [List.mem_singleton.1 h];exact ⟨Int.natCast_nonneg _,by have:=HQK.out;omega⟩⟩
             clear h8 hs o1 HS hz0 hzk
             go_wp2_with fail
             go_roundw
             case rel=>exact ⟨j+1,Nat.succ_le_of_lt hlt,by go_num,HE⟩
             case measure=>have:=HM.out;simp [intOf];omega
       · have hjj:j=l.length:=by omega
         subst hjj
         have hS:=HS.out
         rw [List.take_length] at hS
         have HF:=Lib.hid (cnt_ord hm hS.2.2.2)
         have r0:=rangeAt_row hS.2.1
         have r1:=rangeAt_row hS.2.2.1
         have HB:=Lib.hid hS.1
         clear hS HS
         obtain ⟨i0,hi0,_,_,_⟩:=info_parts infoInt
         have hq:=fun W=>(run_equalIn_array (P:=Tryz.prog) W 9999 (cntL l).toArray (oncL k).toArray Tryz.underlying80 hi0).trans (run_eqItems_ints 9998 (by kernel_rfl) (by kernel_rfl) Tryz.underlying3 (fun i=>(l.count (i:Int):Int)) (fun i=>if i<k then 1 else 0) (cntL l).toArray (oncL k).toArray W (List.range 8) (fun i hi=>⟨cntA_get l i (List.mem_range.1 hi),oncA_get k i (List.mem_range.1 hi)⟩))
         have HALL:Hid (((List.range 8).all fun i=>((l.count (i:Int):Int) == if i<k then 1 else 0))=ordC k l):=Lib.hid (by
           rw [Bool.eq_iff_iff,← HF.out,List.all_eq_true]
           constructor
           · intro h
             unfold cntA oncA cntL oncL
             congr 1
             exact List.map_congr_left fun i hi=>by rw [eq_of_beq (h i hi)]
           · intro h i hi
             have h1:=cntA_get l i (List.mem_range.1 hi)
             rw [h,oncA_get k i (List.mem_range.1 hi)] at h1
             rw [beq_iff_eq]
             exact (Value.int.inj (Option.some.inj h1)).2.symm)
         obtain ⟨BB,hBB⟩:∃ BB,BB=((List.range 8).all fun i=>((l.count (i:Int):Int) == if i<k then 1 else 0)):=⟨_,rfl⟩
         have HBB:=Lib.hid hBB
         rw [← hBB] at hq
         clear hBB
         have l0:(cntL l).length=8:=by simp [cntL]
         have l1:(oncL k).length=8:=by simp [oncL]
         go_wp2_with (first
           | (refine wpList_load_mid rfl 80 (.tmp 5) rfl w.heap.size 0 rfl (cntL l) _ r0 Tryz.underlying80 rfl (by rw [l0];exact info_8) ?_)
           | (refine wpList_load_mid rfl 80 (.tmp 6) rfl (w.heap.size+1) 0 rfl (oncL k) _ r1 Tryz.underlying80 rfl (by rw [l1];exact info_8) ?_)
           | fail)
         go_ret
         exact ⟨by rw [HBB.out,HALL.out];rfl,HB.out⟩
end Go.Proofs.YtmmmjohoihpbeaaGreat
