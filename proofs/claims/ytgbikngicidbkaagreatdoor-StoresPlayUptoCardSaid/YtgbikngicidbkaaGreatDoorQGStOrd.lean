/- The package stores: ordered,turns;conditions: those typed. -/
import Derived.Test.YtgbikngicidbkaaGreatDoorQStSeq
import Derived.Test.YtgbikngicidbkaaGreatDoorQStLay
import Derived.Test.YtgbikngicidbkaaGreatDoorQGStCGStCloStArg2
import Derived.Sort.OwnSortedInts
import Derived.Test.YtgbikngicidbkaaGreatDoorQGStNGStN2R1ListR1GetL
namespace Go.Proofs.YtgbikngicidbkaaGreatDoor
section
open Go.RowKit Go.Shelf Go.Sort
set_option linter.unusedVariables false
set_option linter.unusedSimpArgs false
def sortI (l:List Int):List Int:=l.mergeSort fun x y=>decide (x≤y)
theorem sortI_perm (l:List Int):(sortI l).Perm l:=List.mergeSort_perm l _
theorem sortI_length (l:List Int):(sortI l).length=l.length:=(sortI_perm l).length_eq
theorem sortI_pw (l:List Int):(sortI l).Pairwise (·≤·):=by
 have:=List.pairwise_mergeSort (le:=fun x y:Int=>decide (x≤y)) (fun a b c h1 h2=>by simp at *;omega) (fun a b=>by simp;omega) l
 exact this.imp (fun h=>by simpa using h)
theorem perm_of_all {α:Type} [DecidableEq α] (a:List α):∀ (l:List α),a.Nodup→(∀ x ∈ a,x ∈ l)→l.length≤a.length→l.Perm a:=by
 induction a with
 | nil=>intro l _ _ hl;have:l=[]:=List.eq_nil_of_length_eq_zero (by simpa using hl);rw [this]
 | cons x a ih =>
   intro l hn hs hl
   obtain ⟨hx,hn'⟩:=List.nodup_cons.1 hn
   have hxl:=hs x List.mem_cons_self
   refine (List.perm_cons_erase hxl).trans (List.Perm.cons x (ih (l.erase x) hn' (fun y hy => ?_) ?_))
   · have:y≠x:=fun e=>hx (e ▸ hy)
     exact (List.mem_erase_of_ne this).2 (hs y (List.mem_cons_of_mem _ hy))
   · rw [List.length_erase_of_mem hxl];simp at hl;omega
theorem allC_nodup (n:Nat):(allC n).Nodup:=by
 unfold allC
 refine List.Pairwise.map _ (fun a b hab e=>hab ?_) List.nodup_range
 exact Int.ofNat.inj e
theorem allC_get (n i:Nat) (h:i<n):(allC n)[i]'(by rw [allC_length];exact h)=(i:Int):=by simp [allC]
theorem allC_pw (n:Nat):(allC n).Pairwise (·≤·):=by
 rw [List.pairwise_iff_getElem]
 intro i j hi hj hij
 rw [allC_length] at hi hj
 rw [allC_get n i hi,allC_get n j hj]
 omega
theorem ordC_sorted {n:Nat} {l:List Int} (h:ordC n l=true):sortI l=allC n:=by
 unfold ordC at h
 rw [Bool.and_eq_true,decide_eq_true_eq,List.all_eq_true] at h
 obtain ⟨h1,h2⟩:=h
 have hp:l.Perm (allC n):=perm_of_all (allC n) l (allC_nodup n) (fun x hx=>by
   obtain ⟨i,hi,rfl⟩:=List.mem_map.1 hx
   exact of_decide_eq_true (h2 i hi)) (by rw [allC_length];omega)
 exact List.Perm.eq_of_pairwise (le:=fun a b:Int=>a≤b) (fun a b _ _ h1 h2=>by omega) (sortI_pw l) (allC_pw n) ((sortI_perm l).trans hp)
theorem ordC_of {n:Nat} {l:List Int} (h:∀ i (h:i<(sortI l).length),(sortI l)[i]=(i:Int)) (hn:(sortI l).length=n):ordC n l=true:=by
 unfold ordC
 rw [Bool.and_eq_true,decide_eq_true_eq,List.all_eq_true]
 refine ⟨by rw [← sortI_length,hn],fun i hi => ?_⟩
 rw [decide_eq_true_eq]
 have hi':i<(sortI l).length:=by rw [hn];exact List.mem_range.1 hi
 rw [← h i hi']
 exact (sortI_perm l).mem_iff.1 (List.getElem_mem hi')
theorem ordC_bad {n:Nat} {l:List Int} (i:Nat) (h:i<(sortI l).length) (hne:(sortI l)[i]≠(i:Int)):ordC n l=false:=by
 rw [Bool.eq_false_iff]
 intro e
 have hs:=ordC_sorted e
 have hin:i<n:=by rw [hs,allC_length] at h;exact h
 apply hne
 have:=allC_get n i hin
 simp only [hs]
 exact this
theorem ordC_len {n:Nat} {l:List Int} (h:(sortI l).length≠n):ordC n l=false:=by
 rw [Bool.eq_false_iff]
 intro e
 exact h (by rw [ordC_sorted e,allC_length])
theorem sort_own (base:Nat) (v:Value) (l:List Int) (w:World) (h:w.ownsRow base 3 1 v l.length (icells l)) (hl:l.length≤17592186044416) :
   Calls Tryz.prog 206 #[v] w fun e w' => e=.returned (.tuple #[])∧w'.ownsRow base 3 1 v (sortI l).length (icells (sortI l))∧w.grownBy w' v.ownBlock:=by
 rcases h.2 with ⟨rfl,hz⟩ | ⟨gb,cap,cur,rfl,hbase,hgb,r1,r2,r3,r4⟩
 · have hl0:l=[]:=List.eq_nil_of_length_eq_zero (by simpa using hz)
   subst hl0
   exact (AnyM.slices_Sort_int_none sortA none 0 w).mono fun e w' ⟨he,hw⟩ => by
     subst hw
     exact ⟨he,by simpa [sortI] using h,⟨rfl,rfl,rfl,Nat.le_refl _,fun _ _ _=>rfl⟩⟩
 · have hH:Holds encZ w gb 0 l.toArray:=holds_of_block_i hgb (by simpa [icells] using r4)
   refine (AnyM.slices_Sort_int sortA gb 0 cap l w hH (Array.getElem?_eq_some_iff.1 hgb).1 (by omega)).mono ?_
   rintro e w' ⟨rfl,nn,os,rfl⟩
   have:=ownsRow_sorted_i (n:=nn) (os:=os) (ts:=sortI l) (sortI_length l) hbase hgb r1 r2 r3
   rw [← sortI_length l] at this
   refine ⟨rfl,?_,grownBy_sorted_i _⟩
   rw [sortI_length l] at this ⊢
   exact this
theorem svalues_any (a:Option Addr) (n c:Nat) (w:World):Calls Tryz.prog 193 #[.slice a n c] w fun e w' => e=.returned (.func (.func 207) #[] #[.pointer (some ⟨w.heap.size,0,none⟩)])∧w'=w.alloc (.cells #[.slice a n c] 22):=by
 go_enter Tryz.func193,Tryz.ntmps193
 go_wp2
 go_ret
 exact ⟨rfl,rfl⟩
theorem aseq_any (Bs:Nat) (a:Option Addr) (m cap:Nat) (zs:List Int) (hreach:zs.length≤17592186044416) (w:World) (hBs:Bs<w.heap.size) (hc:w.cell? ⟨Bs,0,none⟩=some (.slice a m cap)) (hI:IsI w a m cap zs) :
   Calls Tryz.prog 211 #[.slice none 0 0,.func (.func 207) #[] #[.pointer (some ⟨Bs,0,none⟩)]] w fun e W' => ∃ v,e=.returned v∧Below w.heap.size w W'∧W'.ownsRow w.heap.size 3 1 v zs.length (icells zs) :=
 (aseq_in ⟨fun _=>True,none,true,none⟩ 2 trivial trivial rfl (Nat.le_refl _) Bs a m cap zs hreach w hBs hc hI).calls (fun k d h=>by cases h)
theorem collect_any (Bs:Nat) (a:Option Addr) (m cap:Nat) (zs:List Int) (hreach:zs.length≤17592186044416) (w:World) (hBs:Bs<w.heap.size) (hc:w.cell? ⟨Bs,0,none⟩=some (.slice a m cap)) (hI:IsI w a m cap zs) :
   Calls Tryz.prog 205 #[.func (.func 207) #[] #[.pointer (some ⟨Bs,0,none⟩)]] w fun e W' => ∃ v,e=.returned v∧Below w.heap.size w W'∧W'.ownsRow w.heap.size 3 1 v zs.length (icells zs):=by
 have HA:=Lib.hid (aseq_any Bs a m cap zs hreach w hBs hc hI)
 clear hc hI
 go_enter Tryz.func205,Tryz.ntmps205
 go_wp2_with fail
 refine HA.out.mono ?_;rintro e w1 ⟨v,rfl,hb1,ho1⟩
 have H1:=Lib.hid hb1
 have H2:=Lib.hid ho1
 clear hb1 ho1
 go_wp2_with fail
 go_ret
 exact ⟨v,rfl,H1.out,H2.out⟩
theorem sorted_any (Bs:Nat) (a:Option Addr) (m cap:Nat) (zs:List Int) (hreach:zs.length≤17592186044416) (w:World) (hBs:Bs<w.heap.size) (hc:w.cell? ⟨Bs,0,none⟩=some (.slice a m cap)) (hI:IsI w a m cap zs) :
   Calls Tryz.prog 192 #[.func (.func 207) #[] #[.pointer (some ⟨Bs,0,none⟩)]] w fun e W' => ∃ v,e=.returned v∧Below w.heap.size w W'∧W'.ownsRow w.heap.size 3 1 v (sortI zs).length (icells (sortI zs)):=by
 have HA:=Lib.hid (collect_any Bs a m cap zs hreach w hBs hc hI)
 clear hc hI
 go_enter Tryz.func192,Tryz.ntmps192
 go_wp2_with fail
 refine HA.out.mono ?_;rintro e w1 ⟨v,rfl,hb1,ho1⟩
 have H1:=Lib.hid hb1
 have H2:=Lib.hid ho1
 clear hb1 ho1
 go_wp2_with fail
 refine (sort_own w.heap.size v zs w1 H2.out hreach).mono ?_;rintro e w2 ⟨rfl,ho2,hg2⟩
 have H3:=Lib.hid (H1.out.grown hg2 H1.out.size (fun j hj=>owns_base H2.out j hj))
 have H4:=Lib.hid ho2
 clear ho2 hg2
 go_wp2_with fail
 go_ret
 exact ⟨v,rfl,H3.out,H4.out⟩
set_option maxHeartbeats 2000000 in
theorem ordered_any (bs bd bl:Nat) (x:StA) (c:StC) (D:Dsk) (a:Option Addr) (n cap:Nat) (l:List Int) (w:World) (h:IsStore w bs bd bl x c D) (hI:IsI w a n cap l) (hl:l.length≤17592186044416) :
   Calls Tryz.prog 145 #[.pointer (some ⟨bs,0,none⟩),.slice a n cap] w fun e w' => e=.returned (.bool (ordC c.s.length l))∧Below w.heap.size w w':=by
 have hb0:Below w.heap.size w (w.alloc (.cells #[.slice a n cap] 22)):=(Below.refl _ _).alloc (Nat.le_refl _) _
 have hv0:=heap_new w (.cells #[.slice a n cap] 22 (0,0))
 have HS:=Lib.hid (sorted_any w.heap.size a n cap l hl (w.alloc (.cells #[.slice a n cap] 22)) (by simp) (by rw [cell_of_block hv0];rfl) (hI.below hb0))
 have hst:=Lib.hid (h.below hb0)
 have hxn:=h.rn.2
 have HX:=Lib.hid hxn
 have HB0:=Lib.hid hb0
 clear hv0 h hI hb0 hxn
 go_enter Tryz.func145,Tryz.ntmps145
 go_wp2_with fail
 refine (svalues_any a n cap w).mono ?_;rintro e w1 ⟨rfl,rfl⟩
 go_wp2_with fail
 refine HS.out.mono ?_;rintro e w2 ⟨v,rfl,hb2,ho2⟩
 obtain ⟨bo,co,rfl⟩:=owns_shape ho2
 have hst2:=hst.out.below hb2
 have f1:=hst2.f.2.1
 rw [HX.out] at f1
 have HB2:=Lib.hid (HB0.out.trans (hb2.mono HB0.out.size))
 have hII:=isI_of_owns ho2 rfl
 have hlm:(sortI l).length≤9223372036854775807:=by rw [sortI_length];omega
 have HC:Hid (∀ k (h:k<(sortI l).length),∃ b off,bo=some ⟨b,off,none⟩∧w2.cell? ⟨b,off+k,none⟩=some (.int .i64 (sortI l)[k])):=Lib.hid fun k hk=>by
   rcases hII.2.2.2 with ⟨h0,_⟩ | ⟨b,off,ha,_,h⟩
   · rw [h0] at hk;simp at hk
   · exact ⟨b,off,ha,h k hk⟩
 have HO:Hid (∀ (hh:∀ i (h:i<(sortI l).length),(sortI l)[i]=(i:Int)),ordC c.s.length l=decide ((sortI l).length=c.s.length)):=Lib.hid (fun hh=>by
   by_cases hn:(sortI l).length=c.s.length
   · rw [ordC_of hh hn,decide_eq_true hn]
   · rw [ordC_len hn,decide_eq_false hn])
 have HBD:Hid (∀ i (h:i<(sortI l).length),(sortI l)[i]≠(i:Int)→ordC c.s.length l=false):=Lib.hid (fun i h hne=>ordC_bad i h hne)
 clear hst2 hb2 ho2 hII hst
 generalize sortI l=S at hlm HC HO HBD ⊢
 obtain ⟨N,hN⟩:∃ N,N=S.length:=⟨_,rfl⟩
 have HN:=Lib.hid hN
 clear hN
 go_wp2_with fail
 go_loop [13] (fun i => ∃ k:Nat,k≤S.length∧i=.int .i64 k∧Hid (∀ j (hj:j<S.length),j<k→S[j]=(j:Int))) (fun i=>N - (intOf i).toNat)
 case atStart=>exact ⟨0,Nat.zero_le _,rfl,Lib.hid (fun j hj h=>by omega)⟩
 case round =>
   obtain ⟨k,hk,rfl,HK⟩:=hrel
   by_cases hlt:k<S.length
   · obtain ⟨b,off,rfl,hcell⟩:=HC.out k hlt
     by_cases he:S[k]=(k:Int)
     · have HK2:Hid (∀ j (hj:j<S.length),j<k+1→S[j]=(j:Int)):=Lib.hid (fun j hj h=>by
         by_cases hjk:j=k
         · subst hjk;exact he
         · exact HK.out j hj (by omega))
       have d1:(S[k] != (k:Int))=false:=by simpa using he
       generalize S[k]=z at hcell he d1
       clear he
       go_wp2
       go_round
       case rel=>exact ⟨k+1,by omega,by go_num,HK2⟩
       case measure=>have:=HN.out;simp [intOf];omega
     · have HF:=Lib.hid (HBD.out k hlt he)
       have d1:(S[k] != (k:Int))=true:=by simpa using he
       generalize S[k]=z at hcell he d1
       clear he
       go_wp2
       go_ret
       exact ⟨by rw [HF.out];rfl,HB2.out⟩
   · have hkk:k=S.length:=by omega
     have HF:=Lib.hid (HO.out (fun i hi=>HK.out i hi (by omega)))
     subst hkk
     have d1:Hid (((S.length:Int) == (c.s.length:Int))=decide (S.length=c.s.length)):=Lib.hid (by rw [Bool.eq_iff_iff,beq_iff_eq,decide_eq_true_eq];omega)
     go_wp2
     go_ret
     exact ⟨by rw [HF.out,← d1.out];rfl,HB2.out⟩
set_option maxHeartbeats 1000000 in
theorem turns_any (bs bd bl:Nat) (x:StA) (c:StC) (D:Dsk) (p:Nat) (a:Option Addr) (n cap:Nat) (l:List Int) (w:World) (h:IsStore w bs bd bl x c D) (hI:IsI w a n cap l) (hl:l.length≤17592186044416) (hp:p<256) :
   Calls Tryz.prog 69 #[.pointer (some ⟨bs,0,none⟩),.int .u8 p,.slice a n cap] w fun e w' => e=.returned (.bool (turnsC c.s.length p l))∧Below w.heap.size w w':=by
 have hn:=hI.1
 subst hn
 by_cases h2:p=2
 · have d1:((p:Int) == 2)=true:=by rw [h2];rfl
   have HO:=Lib.hid (ordered_any bs bd bl x c D a _ cap l w h hI hl)
   have HT:Hid (turnsC c.s.length p l=ordC c.s.length l):=Lib.hid (by unfold turnsC;rw [if_pos h2])
   clear h hI h2
   go_enter Tryz.func69,Tryz.ntmps69
   go_wp2_with fail
   refine HO.out.mono ?_;rintro e w1 ⟨rfl,hb1⟩
   go_wp2_with fail
   go_ret
   exact ⟨by rw [HT.out];rfl,hb1⟩
 · have d1:((p:Int) == 2)=false:=by rw [beq_eq_false_iff_ne];omega
   by_cases h3:p≤3
   · have d2:decide ((p:Int)≤3)=true:=decide_eq_true (by omega)
     have HT:Hid (turnsC c.s.length p l=((l.length:Int) == 0)):=Lib.hid (by
       unfold turnsC;rw [if_neg h2,decide_eq_true h3,Bool.true_and];cases l <;> simp;omega)
     clear h hI h2 h3
     go_enter Tryz.func69,Tryz.ntmps69
     go_wp2_with fail
     go_ret
     exact ⟨by rw [HT.out];rfl,Below.refl _ _⟩
   · have d2:decide ((p:Int)≤3)=false:=decide_eq_false (by omega)
     have HT:Hid (turnsC c.s.length p l=false):=Lib.hid (by unfold turnsC;rw [if_neg h2,decide_eq_false h3];rfl)
     clear h hI h2 h3
     go_enter Tryz.func69,Tryz.ntmps69
     go_wp2_with fail
     go_ret
     exact ⟨by rw [HT.out];rfl,Below.refl _ _⟩
/- The package stores: phase;conditions: those typed. -/
open Go.RowKit
set_option linter.unusedVariables false
set_option linter.unusedSimpArgs false
theorem decP_k (b:List UInt8):decP b=match decN 1 b with
   | none=>none
   | some (p,b1)=>match decL b1 with
     | none=>none
     | some (l,b2)=>if b2=[] then some (p,l) else none:=rfl
theorem alloc2_facts (w:World) (o1 o2:Obj):Below w.heap.size w ((w.alloc o1).alloc o2)∧((w.alloc o1).alloc o2).heap[w.heap.size]?=some o1∧((w.alloc o1).alloc o2).heap[w.heap.size+1]?=some o2:=by
 refine ⟨((Below.refl _ _).alloc (Nat.le_refl _) _).alloc (by simp) _,below_heap (B:=w.heap.size+1) ((Below.refl _ _).alloc (by simp) _) (heap_new w _) (by omega),?_⟩
 have:=heap_new (w.alloc o1) o2
 rwa [World.size_alloc] at this
theorem alloc3_facts (w:World) (o1 o2 o3:Obj):Below w.heap.size w (((w.alloc o1).alloc o2).alloc o3)∧(((w.alloc o1).alloc o2).alloc o3).heap[w.heap.size]?=some o1∧(((w.alloc o1).alloc o2).alloc o3).heap[w.heap.size+1]?=some o2∧(((w.alloc o1).alloc o2).alloc o3).heap[w.heap.size+1+1]?=some o3:=by
 obtain ⟨h1,h2,h3⟩:=alloc2_facts w o1 o2
 have hb:Below (w.heap.size+2) ((w.alloc o1).alloc o2) (((w.alloc o1).alloc o2).alloc o3):=(Below.refl _ _).alloc (by simp) _
 refine ⟨h1.alloc (by simp;omega) _,below_heap hb h2 (by omega),below_heap hb h3 (by omega),?_⟩
 have:=heap_new ((w.alloc o1).alloc o2) o3
 rwa [World.size_alloc,World.size_alloc] at this
theorem set2_facts {w:World} {a b:Nat} {v0 v1:Value} {T0 T1:TypeId} (x y:Value) (h0:w.heap[a]?=some (.cells #[v0] T0 (0,0))) (h1:w.heap[b]?=some (.cells #[v1] T1 (0,0))) (hne:a≠b) :
   ((w.setCell ⟨a,0,none⟩ x).setCell ⟨b,0,none⟩ y).cell? ⟨a,0,none⟩=some x∧((w.setCell ⟨a,0,none⟩ x).setCell ⟨b,0,none⟩ y).cell? ⟨b,0,none⟩=some y∧Touch (fun k=>k=a∨k=b) w ((w.setCell ⟨a,0,none⟩ x).setCell ⟨b,0,none⟩ y):=by
 have e2:((w.setCell ⟨a,0,none⟩ x).setCell ⟨b,0,none⟩ y).heap[a]?=some (.cells #[x] T0 (0,0)):=by
   rw [Below.heap_setCell _ _ _ _ hne,heap_setCell_same _ _ 0 _ _ _ h0];rfl
 have e3:((w.setCell ⟨a,0,none⟩ x).setCell ⟨b,0,none⟩ y).heap[b]?=some (.cells #[y] T1 (0,0)):=by
   rw [heap_setCell_same _ _ 0 #[v1] _ _ (by rw [Below.heap_setCell _ _ _ _ (fun e=>hne e.symm)];exact h1)];rfl
 exact ⟨by rw [cell_of_block e2];rfl,by rw [cell_of_block e3];rfl,((Touch.refl (fun k=>k=a∨k=b) w).setCell ⟨a,0,none⟩ x (.inl (.inl rfl))).setCell ⟨b,0,none⟩ y (.inl (.inr rfl))⟩
def PhJ (P:Nat→Prop) (b0:List UInt8) (n0 br:Nat) (wA:World) (B:Nat) (i:Nat) (b:List UInt8) (bad:Bool) (W:World):Prop :=
 Touch (fun k=>k=n0∨k=n0+1∨k=br) wA W∧IsRd P W br b bad∧∃ (p:Nat) (v:Value),W.heap[n0]?=some (.cells #[.int .u8 p] 61 (0,0))∧W.heap[n0+1]?=some (.cells #[v] 22 (0,0))∧p<256∧(∃ a n c,v=.slice a n c) ∧
   (bad=true→decP b0=none)∧(bad=false→(i=0→b=b0)∧(i=1→decN 1 b0=some (p,b))∧(i=2→∃ b1 l,decN 1 b0=some (p,b1)∧decL b1=some (l,b)∧∃ g,v=.slice (some ⟨g,0,none⟩) l.length l.length∧W.ownsRow B 3 1 v l.length (icells l)))
set_option maxRecDepth 100000 in
set_option maxHeartbeats 4000000 in
theorem phase_any (bs bd bl:Nat) (x:StA) (c:StC) (D:Dsk) (w:World) (h:IsStore w bs bd bl x c D) :
   Calls Tryz.prog 76 #[.pointer (some ⟨bs,0,none⟩)] w fun e w' => ∃ a,e=.returned (.tuple #[.int .u8 (phD c.s.length D).1,.slice a (phD c.s.length D).2.1.length (phD c.s.length D).2.1.length,.bool (phD c.s.length D).2.2])∧Below w.heap.size w w'∧NwI w.heap.size w' a (phD c.s.length D).2.1:=by
 have hb0:Below w.heap.size w ((w.alloc (.cells #[.int .u8 0] 61)).alloc (.cells #[.slice none 0 0] 22)):=((Below.refl _ _).alloc (Nat.le_refl _) _).alloc (by simp) _
 have hv2:((w.alloc (.cells #[.int .u8 0] 61)).alloc (.cells #[.slice none 0 0] 22)).heap[w.heap.size]?=some (.cells #[.int .u8 ((0:Nat):Int)] 61 (0,0)):=below_heap (B:=w.heap.size+1) ((Below.refl _ _).alloc (by simp) _) (heap_new w _) (by omega)
 have hv3:((w.alloc (.cells #[.int .u8 0] 61)).alloc (.cells #[.slice none 0 0] 22)).heap[w.heap.size+1]?=some (.cells #[.slice none 0 0] 22 (0,0)):=by
   have:=heap_new (w.alloc (.cells #[.int .u8 0] 61)) (.cells #[.slice none 0 0] 22 (0,0))
   rwa [show (w.alloc (.cells #[.int .u8 0] 61)).heap.size=w.heap.size+1 by simp] at this
 have hst:=h.below hb0
 have H0:=Lib.hid h
 clear h
 go_enter Tryz.func76,Tryz.ntmps76
 go_wp2_with fail
 generalize (w.alloc (.cells #[.int .u8 0] 61)).alloc (.cells #[.slice none 0 0] 22)=w0 at hb0 hv2 hv3 hst ⊢
 have f5:=hst.f.2.2
 have hd0:=(Below.refl w0.heap.size w0).drew
 go_region_held3 (fun w' => w'.cell? ⟨bs,5,none⟩=some (.pointer (some ⟨bd,0,none⟩))) (first
     | with_reducible exact cell_later hB1 f5
     | with_reducible exact cell_later hd0 f5) (first
   | (go_at_call 71;((with_reducible refine (stphase_any w0.drew).mono ?_);rintro e w1 ⟨rfl,rfl⟩))
   | (go_at_call 53;((with_reducible refine (get_i bd bl D 12 12 w0.drew rfl (hst.disk.touch (Touch.of_below (S:=fun _=>False) hd0) id id)).mono ?_);rintro e w1 ⟨a1,rfl,hb1,hi1,hlow⟩;have hB1:Below w0.heap.size w0 w1:=hd0.trans (hb1.mono hd0.size)))
   | fail)
 have HST:=Lib.hid (hst.below hB1)
 have hv2':=below_heap hB1 hv2 (lt_of_heap hv2)
 have hv3':=below_heap hB1 hv3 (lt_of_heap hv3)
 have HB:=Lib.hid (hb0.trans (hB1.mono hb0.size))
 have HI:=Lib.hid hi1
 have hz0:w.heap.size+1<w0.heap.size:=lt_of_heap hv3
 have HLOW:Hid (∀ k off,a1=some ⟨k,off,none⟩→(D.get ((12:Nat):Int)).2.1≠[]→w.heap.size+1<k):=Lib.hid (fun k off ha _=>by have h1:=hlow k off ha;have h2:w0.drew.heap.size=w0.heap.size:=rfl;omega)
 have HPH:Hid (phD c.s.length D=phaseC c.s.length (D.get ((12:Nat):Int)).1 (D.get ((12:Nat):Int)).2.1):=Lib.hid rfl
 have hn1:w.heap.size+1<w1.heap.size:=lt_of_heap hv3'
 clear hst hb0 hv2 hv3 f5 hd0 hB1 hb1 hi1 hlow hz0
 generalize (D.get ((12:Nat):Int)).1=q at HPH ⊢
 generalize (D.get ((12:Nat):Int)).2.1=b at HPH HI HLOW ⊢
 generalize (D.get ((12:Nat):Int)).2.2=ee
 have g2:w1.cell? ⟨w.heap.size,0,none⟩=some (.int .u8 0):=by rw [cell_of_block hv2'];rfl
 have g3:w1.cell? ⟨w.heap.size+1,0,none⟩=some (.slice none 0 0):=by rw [cell_of_block hv3'];rfl
 have k2:w1.frozen? ⟨w.heap.size,0,none⟩=false:=blk_free hv2'
 have k3:w1.frozen? ⟨w.heap.size+1,0,none⟩=false:=blk_free hv3'
 by_cases hq:q=0
 · have d1:((q:Int) == 0)=true:=by rw [hq];rfl
   have HR:Hid (phD c.s.length D=(0,[],true)):=Lib.hid (by rw [HPH.out,hq];rfl)
   clear hq HPH
   go_wp2_with fail
   obtain ⟨c2,c3,ht⟩:=set2_facts (.int .u8 0) (.slice none 0 0) hv2' hv3' (by omega)
   refine bodyPost_ret (v:=.tuple #[.int .u8 0,.slice none 0 0,.bool true]) (by simp [results,Tryz.f76,go_sem,c2,c3]) rfl ?_
   rw [HR.out]
   exact ⟨none,rfl,HB.out.trans (ht.below HB.out.size (fun k hk e=>by omega)),NwI.nil _ _⟩
 · have d1:((q:Int) == 0)=false:=by rw [beq_eq_false_iff_ne];omega
   have HQ:=Lib.hid hq
   clear hq
   obtain ⟨hwa,r0,r1,r2⟩:=alloc3_facts w1 (.cells #[.slice a1 b.length b.length,.bool false] 161 (0,0)) (.cells #[.pointer (some ⟨w1.heap.size,0,none⟩)] 159 (0,0)) (.cells #[.func (.func 157) #[] #[.pointer (some ⟨w1.heap.size+1,0,none⟩),.pointer (some ⟨w.heap.size,0,none⟩)],.func (.func 158) #[] #[.pointer (some ⟨w1.heap.size+1,0,none⟩),.pointer (some ⟨w.heap.size+1,0,none⟩)]] 1 (0,0))
   go_wp2_with fail
   generalize ((w1.alloc (.cells #[.slice a1 b.length b.length,.bool false] 161)).alloc (.cells #[.pointer (some ⟨w1.heap.size,0,none⟩)] 159)).alloc (.cells #[.func (.func 157) #[] #[.pointer (some ⟨w1.heap.size+1,0,none⟩),.pointer (some ⟨w.heap.size,0,none⟩)],.func (.func 158) #[] #[.pointer (some ⟨w1.heap.size+1,0,none⟩),.pointer (some ⟨w.heap.size+1,0,none⟩)]] 1)=wA at hwa r0 r1 r2 ⊢
   have m2:=below_heap hwa hv2' (lt_of_heap hv2')
   have m3:=below_heap hwa hv3' (lt_of_heap hv3')
   have hIA:=HI.out.below hwa
   have HSA:=Lib.hid (HST.out.below hwa)
   have HBA:=Lib.hid (HB.out.trans (hwa.mono HB.out.size))
   have hn0:w.heap.size<w1.heap.size:=by omega
   have hsz:w1.heap.size+1+1<wA.heap.size:=lt_of_heap r2
   refine (runs_any (P:=fun k=>w.heap.size+1<k) w1.heap.size (some ⟨w1.heap.size+1+1,0,none⟩) 2 [(157,#[.pointer (some ⟨w1.heap.size+1,0,none⟩),.pointer (some ⟨w.heap.size,0,none⟩)]),(158,#[.pointer (some ⟨w1.heap.size+1,0,none⟩),.pointer (some ⟨w.heap.size+1,0,none⟩)])] (PhJ (fun k=>w.heap.size+1<k) b w.heap.size w1.heap.size wA w1.heap.size) b wA ?hJ (by simp) (by simp) ?hstep ?hcall ?hskip ?h0).mono ?_
   case hJ =>
     rintro i b' bad W ⟨ht,hr,_⟩
     refine ⟨hr,_,_,rfl,fun j hj => ?_⟩
     have hW:=ht.heap r2 (by omega)
     rw [Nat.zero_add,cell_of_block hW]
     match j,hj with
     | 0,_=>rfl
     | 1,_=>rfl
   case hstep =>
     rintro i hi b' W ⟨ht,hr,p,v,q2,q3,hp,⟨va,vn,vc,rfl⟩,_,hst⟩
     have hW1:=ht.heap r1 (by omega)
     obtain ⟨s0,s1,s2⟩:=hst rfl
     match i,hi with
     | 0,_ =>
       obtain rfl:=s0 rfl
       refine (clo_phase1 (w1.heap.size+1) w1.heap.size w.heap.size _ _ _ b' W hW1 q2 (by omega) (by simp) hr (by omega)).mono ?_
       rintro e W' ⟨rfl,v',ht',hh',hr',rfl⟩
       refine ⟨rfl,?_⟩
       have ht2:=ht.trans (ht'.weaken (T:=fun k=>k=w.heap.size∨k=w.heap.size+1∨k=w1.heap.size) (fun k _ hk=>by omega))
       have q3':=ht'.heap q3 (by omega)
       have hlt:=decN_lt 1 b'
       cases hd:decN 1 b' with
       | none =>
         rw [hd] at hr'
         exact ⟨_,true,ht2,hr',0,_,by simpa [hd] using hh',q3',by decide,⟨_,_,_,rfl⟩,fun _=>by rw [decP_k,hd],fun h=>by cases h⟩
       | some x =>
         obtain ⟨p',r⟩:=x
         rw [hd] at hr' hlt
         exact ⟨_,false,ht2,hr',p',_,by simpa [hd] using hh',q3',hlt,⟨_,_,_,rfl⟩,(fun h=>by cases h),fun _=>⟨(fun h=>by omega),(fun _=>by rw [hd]),fun h=>by omega⟩⟩
     | 1,_ =>
       have s1:=s1 rfl
       refine (clo_phase2 (w1.heap.size+1) w1.heap.size (w.heap.size+1) _ _ _ b' W hW1 q3 (by omega) (by simp) hr (by omega)).mono ?_
       rintro e W' ⟨rfl,v',ht',hh',hr',hv'⟩
       refine ⟨rfl,?_⟩
       have ht2:=ht.trans (ht'.weaken (T:=fun k=>k=w.heap.size∨k=w.heap.size+1∨k=w1.heap.size) (fun k _ hk=>by omega))
       have q2':=ht'.heap q2 (by omega)
       cases hd:decL b' with
       | none =>
         rw [hd] at hr' hv'
         obtain rfl:=hv'
         exact ⟨_,true,ht2,hr',p,_,q2',hh',hp,⟨_,_,_,rfl⟩,fun _=>by rw [decP_k,s1];dsimp only;rw [hd],fun h=>by cases h⟩
       | some x =>
         obtain ⟨l,r⟩:=x
         rw [hd] at hr' hv'
         obtain ⟨g,rfl,ho⟩:=hv'
         exact ⟨_,false,ht2,hr',p,_,q2',hh',hp,⟨_,_,_,rfl⟩,(fun h=>by cases h),fun _=>⟨(fun h=>by omega),fun h=>by omega,fun _=>⟨b',l,s1,hd,g,rfl,owns_low ho (Nat.le_trans (by omega) ht.size)⟩⟩⟩
   case hcall =>
     intro i hi W
     match i,hi with
     | 0,_=>exact (enters_of Tryz.func157 (by kernel_rfl) rfl) _ _
     | 1,_=>exact (enters_of Tryz.func158 (by kernel_rfl) rfl) _ _
   case hskip =>
     rintro i b' W ⟨ht,hr,p,v,q2,q3,hp,hv,hbad,_⟩
     exact ⟨ht,hr,p,v,q2,q3,hp,hv,hbad,fun h=>by cases h⟩
   case h0 =>
     exact ⟨Touch.refl _ _,⟨_,_,_,r0,hIA,HLOW.out⟩,0,_,m2,m3,by decide,⟨_,_,_,rfl⟩,(fun h=>by cases h),fun _=>⟨fun _=>rfl,(fun h=>by omega),fun h=>by omega⟩⟩
   rintro e W ⟨b',bad,⟨ht,hr,p,v,q2,q3,hp,⟨va,vn,vc,rfl⟩,hbad,hst⟩,rfl⟩
   have hBW:Below w.heap.size w W:=HBA.out.trans (ht.below HBA.out.size (fun k hk e=>by omega))
   have hsW:=H0.out.below hBW
   have u2:W.cell? ⟨w.heap.size,0,none⟩=some (.int .u8 p):=by rw [cell_of_block q2];rfl
   have u3:W.cell? ⟨w.heap.size+1,0,none⟩=some (.slice va vn vc):=by rw [cell_of_block q3];rfl
   have z2:W.frozen? ⟨w.heap.size,0,none⟩=false:=blk_free q2
   have z3:W.frozen? ⟨w.heap.size+1,0,none⟩=false:=blk_free q3
   clear g2 g3 k2 k3 m2 m3 hIA hv2' hv3' r0 r1 r2 hwa
   by_cases hok:bad=false∧b'=[]
   · obtain ⟨rfl,rfl⟩:=hok
     obtain ⟨b1,l,hd1,hd2,g,hv,ho⟩:=(hst rfl).2.2 rfl
     cases hv
     have hdec:decP b=some (p,l):=by rw [decP_k,hd1];dsimp only;rw [hd2];rfl
     have hl255:=(decL_len hd2).1
     have HPT:Hid (phD c.s.length D=if turnsC c.s.length p l then (p,l,true) else (0,[],false)):=Lib.hid (by rw [HPH.out];unfold phaseC;rw [if_neg HQ.out,hdec])
     have HTU:=Lib.hid (turns_any bs bd bl x c D p (some ⟨g,0,none⟩) l.length l.length l W hsW (isI_of_owns ho rfl) (by omega) hp)
     have HO:=Lib.hid ho
     have Q2:=Lib.hid q2
     have Q3:=Lib.hid q3
     have HBW:=Lib.hid hBW
     clear hdec hd1 hd2 hst hbad hr ht hBW hsW q2 q3 ho
     go_wp2_with fail
     refine HTU.out.mono ?_;rintro e W2 ⟨rfl,hb2⟩
     have q2':=below_heap hb2 Q2.out (lt_of_heap Q2.out)
     have q3':=below_heap hb2 Q3.out (lt_of_heap Q3.out)
     have HB2:=Lib.hid (HBW.out.trans (hb2.mono HBW.out.size))
     have HO2:=Lib.hid (owns_below HO.out hb2)
     have y2:W2.cell? ⟨w.heap.size,0,none⟩=some (.int .u8 p):=by rw [cell_of_block q2'];rfl
     have y3:W2.cell? ⟨w.heap.size+1,0,none⟩=some (.slice (some ⟨g,0,none⟩) l.length l.length):=by rw [cell_of_block q3'];rfl
     have x2:W2.frozen? ⟨w.heap.size,0,none⟩=false:=blk_free q2'
     have x3:W2.frozen? ⟨w.heap.size+1,0,none⟩=false:=blk_free q3'
     clear hb2 u2 u3 z2 z3 HTU
     cases htc:turnsC c.s.length p l with
     | false =>
       have HR:Hid (phD c.s.length D=(0,[],false)):=Lib.hid (by rw [HPT.out,htc];rfl)
       obtain ⟨c2,c3,ht3⟩:=set2_facts (.int .u8 0) (.slice none 0 0) q2' q3' (by omega)
       have HT3:=Lib.hid ht3
       clear htc ht3 q2' q3'
       go_wp2_with fail
       refine bodyPost_ret (v:=.tuple #[.int .u8 0,.slice none 0 0,.bool false]) (by simp [results,Tryz.f76,go_sem,c2,c3]) rfl ?_
       rw [HR.out]
       exact ⟨none,rfl,HB2.out.trans (HT3.out.below HB2.out.size (fun k hk e=>by omega)),NwI.nil _ _⟩
     | true =>
       have HR:Hid (phD c.s.length D=(p,l,true)):=Lib.hid (by rw [HPT.out,htc];rfl)
       obtain ⟨c2,c3,ht3⟩:=set2_facts (w:=W2) (.int .u8 p) (.slice (some ⟨g,0,none⟩) l.length l.length) q2' q3' (by omega)
       have HT3:=Lib.hid ht3.drew
       have C4:Hid ((W2.setCell ⟨w.heap.size,0,none⟩ (.int .u8 p)).cell? ⟨w.heap.size,0,none⟩=some (.int .u8 p)):=Lib.hid (World.cell?_setCell_same' _ _ _ (by rw [y2];rfl))
       have C2:=Lib.hid c2
       have C3:=Lib.hid c3
       clear htc ht3 q2' q3' c2 c3
       go_wp2_with fail
       go_region
       go_wp2_with fail
       refine bodyPost_ret (v:=.tuple #[.int .u8 p,.slice (some ⟨g,0,none⟩) l.length l.length,.bool true]) (by simp [results,Tryz.f76,go_sem,C2.out,C3.out,C4.out]) rfl ?_
       rw [HR.out]
       exact ⟨some ⟨g,0,none⟩,rfl,HB2.out.trans (HT3.out.below HB2.out.size (fun k hk e=>by omega)),l.length,owns_low (owns_touch HO2.out HT3.out (fun k hk=>by have:=owns_base HO2.out k hk;omega)) (Nat.le_of_lt hn0)⟩
   · have hnone:decP b=none:=by
       cases bad with
       | true=>exact hbad rfl
       | false =>
         obtain ⟨b1,l,hd1,hd2,_⟩:=(hst rfl).2.2 rfl
         rw [decP_k,hd1];dsimp only;rw [hd2];dsimp only
         rw [if_neg (fun e=>hok ⟨rfl,e⟩)]
     have hE:Hid ((!bad && b'.isEmpty)=false):=Lib.hid (by
       cases bad with
       | true=>rfl
       | false =>
         have:b'≠[]:=fun e=>hok ⟨rfl,e⟩
         cases b' <;> simp_all)
     have HR:Hid (phD c.s.length D=(0,[],false)):=Lib.hid (by rw [HPH.out];unfold phaseC;rw [if_neg HQ.out,hnone])
     obtain ⟨c2,c3,ht3⟩:=set2_facts (.int .u8 0) (.slice none 0 0) q2 q3 (by omega)
     have HT3:=Lib.hid ht3
     have HBW:=Lib.hid hBW
     rw [hE.out]
     clear hok hnone hst hbad hr ht ht3 hBW hsW q2 q3
     go_wp2_with fail
     refine bodyPost_ret (v:=.tuple #[.int .u8 0,.slice none 0 0,.bool false]) (by simp [results,Tryz.f76,go_sem,c2,c3]) rfl ?_
     rw [HR.out]
     exact ⟨none,rfl,HBW.out.trans (HT3.out.below HBW.out.size (fun k hk e=>by omega)),NwI.nil _ _⟩
/- The package stores: room,Phase,Order;conditions: those typed. -/
open Go.RowKit
set_option linter.unusedVariables false
set_option linter.unusedSimpArgs false
def roomC (D:Dsk) (n:Nat):Bool:=decide (12*(2+n)≤D.secs.length)
set_option maxHeartbeats 1000000 in
theorem stcap_any (bd bl:Nat) (D:Dsk) (n:Nat) (w:World) (h:IsDisk w bd bl D) (hn:n≤100000) :
   Calls Tryz.prog 52 #[.pointer (some ⟨bd,0,none⟩),.int .i64 n] w fun e w' => e=.returned (.bool (roomC D n))∧Below w.heap.size w w':=by
 have hE:Hid (decide (((12*(2+n):Nat):Int)≤(D.secs.length:Int))=roomC D n):=Lib.hid (by unfold roomC;rw [decide_eq_decide];omega)
 have hb0:=(Below.refl w.heap.size w).drew
 go_enter Tryz.func52,Tryz.ntmps52
 go_wp2_with fail
 refine (len_disk bd bl D _ (h.touch (Touch.of_below (S:=fun _=>False) (Below.refl _ _)) id id)).mono ?_;rintro e w1 ⟨rfl,rfl⟩
 go_wp2_with fail
 generalize hK:12*(2+n)=K at hE
 refine ((strecord_any n hn _).mono (fun e w' hh=>by rw [hK] at hh;exact hh)).mono ?_;rintro e w1 ⟨rfl,rfl⟩
 go_wp2_with fail
 go_ret
 exact ⟨by rw [← hE.out];first | rfl | simp,Below.refl _ _⟩
set_option maxHeartbeats 2000000 in
theorem phase_pub (bs bd bl:Nat) (x:StA) (c:StC) (D:Dsk) (w:World) (h:IsStore w bs bd bl x c D) :
   Calls Tryz.prog 38 #[.pointer (some ⟨bs,0,none⟩)] w fun e w' => e=.returned (.int .u8 (phD c.s.length D).1)∧Below w.heap.size w w':=by
 have HS:=Lib.hid h
 clear h
 go_enter Tryz.func38,Tryz.ntmps38
 go_wp2_with fail
 refine (there_any bs bd bl x c D w HS.out).mono ?_;rintro e w1 ⟨rfl,rfl⟩
 go_wp2_with fail
 refine (phase_any bs bd bl x c D w HS.out).mono ?_;rintro e w1 ⟨a,rfl,hb,hn⟩
 obtain ⟨r,hr⟩:∃ r,r=phD c.s.length D:=⟨_,rfl⟩
 have HR:=Lib.hid hr
 rw [← hr] at hn ⊢
 clear hr
 obtain ⟨p,l,k⟩:=r
 dsimp only at hn ⊢
 have HB:=Lib.hid hb
 clear hb hn
 go_wp2_with fail
 go_ret
 rw [← HR.out]
 exact ⟨rfl,HB.out⟩
def ordL (n:Nat) (D:Dsk):List Int:=if (phD n D).1=2 then (phD n D).2.1 else []
def ordE (n:Nat) (D:Dsk):Int:=if (phD n D).1=2 then 0 else 8
set_option maxHeartbeats 2000000 in
theorem order_pub (bs bd bl:Nat) (x:StA) (c:StC) (D:Dsk) (w:World) (h:IsStore w bs bd bl x c D) :
   Calls Tryz.prog 32 #[.pointer (some ⟨bs,0,none⟩)] w fun e w' => ∃ a,e=.returned (.tuple #[.slice a (ordL c.s.length D).length (ordL c.s.length D).length,.int .i64 (ordE c.s.length D)])∧Below w.heap.size w w'∧NwI w.heap.size w' a (ordL c.s.length D):=by
 have HS:=Lib.hid h
 clear h
 go_enter Tryz.func32,Tryz.ntmps32
 go_wp2_with fail
 refine (there_any bs bd bl x c D w HS.out).mono ?_;rintro e w1 ⟨rfl,rfl⟩
 go_wp2_with fail
 refine (phase_any bs bd bl x c D w HS.out).mono ?_;rintro e w1 ⟨a,rfl,hb,hn⟩
 obtain ⟨r,hr⟩:∃ r,r=phD c.s.length D:=⟨_,rfl⟩
 have HR:=Lib.hid hr
 rw [← hr] at hn ⊢
 clear hr
 obtain ⟨p,l,k⟩:=r
 dsimp only at hn ⊢
 have HB:=Lib.hid hb
 have HN:=Lib.hid hn
 clear hb hn
 by_cases hp:p=2
 · have d1:((p:Int) == 2)=true:=by rw [hp];rfl
   have d2:((p:Int) != 2)=false:=by rw [hp];rfl
   have H1:Hid (ordL c.s.length D=l):=Lib.hid (by unfold ordL;rw [← HR.out,if_pos hp])
   have H2:Hid (ordE c.s.length D=0):=Lib.hid (by unfold ordE;rw [← HR.out,if_pos hp])
   clear hp
   go_wp2_with fail
   refine bodyPost_ret (results_tmp2 rfl _ _ _) rfl ?_
   rw [H1.out,H2.out]
   exact ⟨a,rfl,HB.out,HN.out⟩
 · have d1:((p:Int) == 2)=false:=by rw [beq_eq_false_iff_ne];omega
   have d2:((p:Int) != 2)=true:=by simp [bne,d1]
   have H1:Hid (ordL c.s.length D=[]):=Lib.hid (by unfold ordL;rw [← HR.out,if_neg hp])
   have H2:Hid (ordE c.s.length D=8):=Lib.hid (by unfold ordE;rw [← HR.out,if_neg hp])
   clear hp
   go_wp2_with fail
   refine bodyPost_ret (results_tmp2 rfl _ _ _) rfl ?_
   rw [H1.out,H2.out]
   exact ⟨none,rfl,HB.out,NwI.nil _ _⟩
/- The package stores: Turn;conditions: those typed. -/
open Go.RowKit
set_option linter.unusedVariables false
set_option linter.unusedSimpArgs false
theorem IsStore.lt {w:World} {bs bd bl:Nat} {x:StA} {c:StC} {D:Dsk} (h:IsStore w bs bd bl x c D):bd<w.heap.size∧bl<w.heap.size:=h.disk.lt
theorem frozen1P (w:World) (p:Nat) (hp:p<256) (e:TypeId):IsB (w.alloc (.cells #[.int .u8 p] e)) (some ⟨w.heap.size,0,none⟩) 1 1 [UInt8.ofNat p]:=by
 refine ⟨rfl,Nat.le_refl _,by decide,.inr ⟨w.heap.size,0,rfl,by simp,fun i hi => ?_⟩⟩
 have hi0:i=0:=by simp at hi;omega
 subst hi0
 have hv:=heap_new w (.cells #[.int .u8 p] e (0,0))
 rw [cell_of_block hv]
 simp
 omega
theorem turn_keeps {bs bd bl:Nat} {x:StA} {c:StC} {D:Dsk} {k:Int} {w:World} {p:Nat} {l:List Int} (h:IsStore w bs bd bl x c D) (hk:D.fine k) (hk2:k≤1000000000000000) (hlt:(D.get ((12:Nat):Int)).1<4294967296) (w1:World) (hb:Below w.heap.size w w1) (a:Option Addr) (m:Nat) (hi:IsB w1 a m m (encP p l)) (ho:∀ b off,a=some ⟨b,off,none⟩→w.heap.size≤b) :
   Calls Tryz.prog 70 #[.pointer (some ⟨bs,0,none⟩),.int .i64 12,.slice a m m] w1 fun e w' => e=.returned (.int .i64 (D.put ((12:Nat):Int) (succ32 (D.get ((12:Nat):Int)).1) (encP p l)).1)∧Touch (fun k=>k=bd∨k=bl) w w'∧IsDisk w' bd bl (D.put ((12:Nat):Int) (succ32 (D.get ((12:Nat):Int)).1) (encP p l)).2:=by
 have hlt2:=h.lt
 refine (keeps_any bs bd bl x c D 12 12 a m m (encP p l) k w1 (h.below hb) rfl hi (fun y off hy _=>by have:=ho y off hy;omega) hk hk2 hlt).mono ?_
 rintro e w2 ⟨rfl,ht,hd⟩
 exact ⟨rfl,(Touch.of_below hb).trans ht,hd⟩
set_option maxRecDepth 100000 in
set_option maxHeartbeats 4000000 in
theorem turn_pub (bs bd bl:Nat) (x:StA) (c:StC) (D:Dsk) (p:Nat) (a:Option Addr) (n cap:Nat) (l:List Int) (k:Int) (w:World) (h:IsStore w bs bd bl x c D) (hI:IsI w a n cap l) (hl:l.length≤17592186044416) (hp:p<256) (hk:D.fine k) (hk2:k≤1000000000000000) (hlt:(D.get ((12:Nat):Int)).1<4294967296) :
   Calls Tryz.prog 14 #[.pointer (some ⟨bs,0,none⟩),.int .u8 p,.slice a n cap] w fun e w' => e=.returned (.int .i64 (turnD c.s.length D p l).1)∧Touch (fun k=>k=bd∨k=bl) w w'∧IsDisk w' bd bl (turnD c.s.length D p l).2:=by
 have HKEEP:=Lib.hid (turn_keeps (p:=p) (l:=l) h hk hk2 hlt)
 have HT:=Lib.hid (turns_any bs bd bl x c D p a n cap l w h hI hl hp)
 have HS:=Lib.hid h
 have HI:=Lib.hid hI
 have HP:=Lib.hid hp
 obtain ⟨q,hq⟩:∃ q,q=(phD c.s.length D).1:=⟨_,rfl⟩
 have HQ:=Lib.hid hq
 obtain ⟨R,hR⟩:∃ R,R=D.put ((12:Nat):Int) (succ32 (D.get ((12:Nat):Int)).1) (encP p l):=⟨_,rfl⟩
 have HR:=Lib.hid hR
 have HTD:Hid (turnD c.s.length D p l=if turnsC c.s.length p l=false then (1,D) else if nextC q p=false then (8,D) else R):=Lib.hid (by unfold turnD;rw [hq,hR])
 have HPH:=Lib.hid (fun w1 (hb:Below w.heap.size w w1)=>(phase_pub bs bd bl x c D w1 (h.below hb)).mono (fun e w' hh=>by rw [← hq] at hh;exact hh))
 rw [← hR] at HKEEP
 clear hk hk2 hlt h hI hp hq hR hl
 go_enter Tryz.func14,Tryz.ntmps14
 go_wp2_with fail
 refine (there_any bs bd bl x c D w HS.out).mono ?_;rintro e w1 ⟨rfl,rfl⟩
 go_wp2_with fail
 refine HT.out.mono ?_;rintro e w1 ⟨rfl,hb1⟩
 have HB1:=Lib.hid hb1
 clear hb1 HT
 cases ht:turnsC c.s.length p l with
 | false =>
   have H1:Hid (turnD c.s.length D p l=(1,D)):=Lib.hid (by rw [HTD.out,if_pos ht])
   clear ht
   go_wp2_with fail
   go_ret
   rw [H1.out]
   exact ⟨rfl,Touch.of_below HB1.out,(HS.out.below HB1.out).disk⟩
 | true =>
   have H1:Hid (turnD c.s.length D p l=if nextC q p=false then (8,D) else R):=Lib.hid (by rw [HTD.out,if_neg (by rw [ht];decide)])
   clear ht HTD
   go_wp2_with fail
   refine (HPH.out w1 HB1.out).mono ?_;rintro e w2 ⟨rfl,hb2⟩
   have HB2:=Lib.hid (HB1.out.trans (hb2.mono HB1.out.size))
   clear hb2 HPH HB1
   have hcase:(nextC q p=true∧(((q:Int) == 0)=true∧((p:Int) == 1)=true∨((q:Int) == 0)=true∧((p:Int) == 1)=false∧((p:Int) == 3)=true∨((q:Int) == 0)=false∧((q:Int) == 1)=true∧((p:Int) == 2)=true∨((q:Int) == 0)=false∧((q:Int) == 1)=true∧((p:Int) == 2)=false∧((p:Int) == 3)=true)) ∨
       (nextC q p=false∧(((q:Int) == 0)=true∧((q:Int) == 1)=false∧((p:Int) == 1)=false∧((p:Int) == 3)=false∨((q:Int) == 0)=false∧((q:Int) == 1)=true∧((p:Int) == 2)=false∧((p:Int) == 3)=false∨((q:Int) == 0)=false∧((q:Int) == 1)=false)):=by
     unfold nextC
     simp only [beq_iff_eq,beq_eq_false_iff_ne,Bool.or_eq_true,Bool.and_eq_true,Bool.or_eq_false_iff,Bool.and_eq_false_iff,ne_eq]
     omega
   rcases hcase with ⟨hn,hc⟩ | ⟨hn,hc⟩
   · have H2:Hid (turnD c.s.length D p l=R):=Lib.hid (by rw [H1.out,if_neg (by rw [hn];decide)])
     have HF:=Lib.hid (frozen1P w2 p HP.out)
     have hbA:∀ e:TypeId,Below w2.heap.size w2 (w2.alloc (.cells #[.int .u8 p] e)):=fun e=>(Below.refl _ _).alloc (Nat.le_refl _) _
     have HBA:=Lib.hid hbA
     have HIA:=Lib.hid (fun e=>(HI.out.below HB2.out).below (hbA e))
     have HE:Hid ([UInt8.ofNat p] ++ encL l=encP p l):=Lib.hid rfl
     clear hn H1 hbA HI
     rcases hc with ⟨q0,p1⟩ | ⟨q0,p1,p3⟩ | ⟨q0,q1,p2⟩ | ⟨q0,q1,p2,p3⟩
     all_goals
       go_wp2_with fail
       refine (stphase_any w2).mono ?_;rintro e w3 ⟨rfl,rfl⟩
       go_wp2_with fail
       refine (nputlisto_any (some ⟨w2.heap.size,0,none⟩) 1 1 [UInt8.ofNat p] a n cap l _ (HF.out _) (by simp) (HIA.out _)).mono ?_;rintro e w4 ⟨a4,m4,rfl,hb4,hi4,ho4⟩
       rw [HE.out] at hi4
       have hb5:=HB2.out.trans (((HBA.out _).trans (hb4.mono (HBA.out _).size)).mono HB2.out.size)
       have ho5:∀ b off,a4=some ⟨b,off,none⟩→w.heap.size≤b:=fun b off he=>by
         have h1:=ho4 b off he
         have h2:=(HBA.out 5).size
         have h3:=HB2.out.size
         simp at h1
         omega
       have HK:=Lib.hid (HKEEP.out w4 hb5 a4 m4 hi4 ho5)
       clear hb4 hi4 ho4 hb5 ho5
       go_wp2_with fail
       refine HK.out.mono ?_;rintro e w5 ⟨rfl,ht5,hd5⟩
       have H5:=Lib.hid (And.intro ht5 hd5)
       clear ht5 hd5 HK
       go_wp2_with fail
       go_ret
       rw [H2.out]
       exact ⟨rfl,H5.out.1,H5.out.2⟩
   · have H2:Hid (turnD c.s.length D p l=(8,D)):=Lib.hid (by rw [H1.out,if_pos hn])
     clear hn H1
     rcases hc with ⟨q0,q1,p1,p3⟩ | ⟨q0,q1,p2,p3⟩ | ⟨q0,q1⟩
     all_goals
       go_wp2_with fail
       go_ret
       rw [H2.out]
       exact ⟨rfl,Touch.of_below HB2.out,(HS.out.below HB2.out).disk⟩
end
end Go.Proofs.YtgbikngicidbkaaGreatDoor
