/- The document's stores (salesroomref20): secret,order,May;its vectors' Check;conditions: those typed. -/
import Derived.Test.YtgbikngicidbkaaGreatDoorQGStGet
import Derived.Test.YtgbikngicidbkaaGreatDoorQGStNGStN2R1ListR1GetL
import Derived.Test.YtgbikngicidbkaaGreatDoorQRefDRefRRefWRefNRefCSameD
import Derived.Test.YtgbikngicidbkaaGreatDoorQGStPut
import Derived.Deep.QuietTactic
import Derived.BigQuiet
import Derived.Test.YtgbikngicidbkaaGreatDoorQR19SR19TR19PR19WSameS
import Derived.Test.YtgbikngicidbkaaGreatDoorQGSlotsGetGSlotsLaw2StOldP
import Derived.Laws.BytesArg
namespace Go.Proofs.YtgbikngicidbkaaGreatDoor
open Go.RowKit
set_option linter.unusedVariables false
set_option linter.unusedSimpArgs false
set_option maxRecDepth 100000
theorem rsecret_any (a:Option Addr) (n c:Nat) (b:List UInt8) (w:World) (hn:n=b.length) (hm:b.length≤9223372036854775807) :
   Calls Tryz.prog 135 #[.slice a n c] w fun e w' => e=.returned (.bool (secB b))∧w=w':=by
 subst hn
 by_cases h1:1≤b.length
 · have d1:decide ((1:Int)≤(b.length:Int))=true:=decide_eq_true (by omega)
   by_cases h2:b.length≤16
   · have d2:decide ((b.length:Int)≤16)=true:=decide_eq_true (by omega)
     have HB:Hid (secB b=true):=Lib.hid (by unfold secB;rw [decide_eq_true h1,decide_eq_true h2];rfl)
     clear h1 h2
     go_enter Tryz.func135,Tryz.ntmps135
     go_wp2
     go_ret
     exact ⟨by rw [HB.out];rfl,rfl⟩
   · have d2:decide ((b.length:Int)≤16)=false:=decide_eq_false (by omega)
     have HB:Hid (secB b=false):=Lib.hid (by unfold secB;rw [decide_eq_true h1,decide_eq_false h2];rfl)
     clear h1 h2
     go_enter Tryz.func135,Tryz.ntmps135
     go_wp2
     go_ret
     exact ⟨by rw [HB.out];rfl,rfl⟩
 · have d1:decide ((1:Int)≤(b.length:Int))=false:=decide_eq_false (by omega)
   have HB:Hid (secB b=false):=Lib.hid (by unfold secB;rw [decide_eq_false h1];rfl)
   clear h1
   go_enter Tryz.func135,Tryz.ntmps135
   go_wp2
   go_ret
   exact ⟨by rw [HB.out];rfl,rfl⟩
theorem okB_no1 (l:List Int) (items:Int) (h:¬ (1≤items∧items≤8)):okB l items=false:=by unfold okB;rw [decide_eq_false h];rfl
theorem okB_no2 (l:List Int) (items:Int) (h:(l.length:Int)≠items):okB l items=false:=by unfold okB;rw [decide_eq_false h];simp
theorem okB_in (l:List Int) (items:Int) (h1:1≤items∧items≤8) (h2:(l.length:Int)=items):okB l items=inB 1000000 l:=by unfold okB;rw [decide_eq_true h1,decide_eq_true h2];rfl
set_option maxHeartbeats 2000000 in
theorem rcheck_any (a:Option Addr) (n c:Nat) (l:List Int) (items:Int) (w:World) (hl:IsI w a n c l) (hi:-1000000≤items∧items≤4611686018427387904) :
   Calls Tryz.prog 162 #[.slice a n c,.int .i64 items] w fun e w' => e=.returned (.bool (okB l items))∧w=w':=by
 obtain ⟨rfl,hlc,hcm,hcells⟩:=hl
 have hm:l.length≤9223372036854775807:=by unfold maxLen at hcm;omega
 have HC:Hid (∀ k (h:k<l.length),∃ b off,a=some ⟨b,off,none⟩∧w.cell? ⟨b,off+k,none⟩=some (.int .i64 l[k])):=Lib.hid fun k hk=>by
   rcases hcells with ⟨h0,_⟩ | ⟨b,off,ha,_,h⟩
   · rw [h0] at hk;simp at hk
   · exact ⟨b,off,ha,h k hk⟩
 clear hcells hcm hlc
 by_cases h1:items<1
 · have d1:decide (items<1)=true:=decide_eq_true h1
   have HF:=Lib.hid (okB_no1 l items (by omega))
   clear h1
   go_enter Tryz.func162,Tryz.ntmps162
   go_wp2_with fail
   go_ret
   exact ⟨by rw [HF.out];rfl,rfl⟩
 have d1:decide (items<1)=false:=decide_eq_false h1
 by_cases h2:8<items
 · have d2:decide ((8:Int)<items)=true:=decide_eq_true h2
   have HF:=Lib.hid (okB_no1 l items (by omega))
   clear h1 h2
   go_enter Tryz.func162,Tryz.ntmps162
   go_wp2_with fail
   go_ret
   exact ⟨by rw [HF.out];rfl,rfl⟩
 have d2:decide ((8:Int)<items)=false:=decide_eq_false h2
 by_cases h3:(l.length:Int)=items
 · have HF:=Lib.hid (okB_in l items (by omega) h3)
   obtain ⟨N,hN⟩:∃ N,N=l.length:=⟨_,rfl⟩
   have HN:=Lib.hid hN
   rw [← h3] at d1 d2 ⊢
   rw [← h3] at HF
   clear hN h3 h1 h2 hi
   go_enter Tryz.func162,Tryz.ntmps162
   go_wp2_with fail
   go_loop [5] (fun i => ∃ k:Nat,k≤l.length∧i=.int .i64 k∧Hid (∀ j (hj:j<l.length),j<k→0≤l[j]∧l[j]≤1000000)) (fun i=>N - (intOf i).toNat)
   case atStart=>exact ⟨0,Nat.zero_le _,rfl,Lib.hid (fun j hj h=>by omega)⟩
   case round =>
     obtain ⟨k,hk,rfl,HS⟩:=hrel
     by_cases hlt:k<l.length
     · obtain ⟨b,off,rfl,hcell⟩:=HC.out k hlt
       by_cases h1:l[k]<0
       · have HB:=Lib.hid (inB_bad 1000000 l k hlt (.inl h1))
         have d1:decide (l[k]<0)=true:=decide_eq_true h1
         generalize l[k]=z at hcell h1 d1
         go_wp2_with fail
         go_ret
         exact ⟨by rw [HF.out,HB.out];rfl,rfl⟩
       · have d1:decide (l[k]<0)=false:=decide_eq_false h1
         by_cases h2:1000000<l[k]
         · have HB:=Lib.hid (inB_bad 1000000 l k hlt (.inr h2))
           have d2:decide ((1000000:Int)<l[k])=true:=decide_eq_true h2
           generalize l[k]=z at hcell h1 h2 d1 d2
           go_wp2_with fail
           go_ret
           exact ⟨by rw [HF.out,HB.out];rfl,rfl⟩
         · have d2:decide ((1000000:Int)<l[k])=false:=decide_eq_false h2
           have HS2:Hid (∀ j (hj:j<l.length),j<k+1→0≤l[j]∧l[j]≤1000000):=Lib.hid (fun j hj h=>by
             by_cases hjk:j=k
             · subst hjk;exact ⟨by omega,by omega⟩
             · exact HS.out j hj (by omega))
           generalize l[k]=z at hcell h1 h2 d1 d2
           go_wp2_with fail
           go_round
           case rel=>exact ⟨k+1,by omega,by go_num,HS2⟩
           case measure=>have:=HN.out;simp [intOf];omega
     · have hkk:k=l.length:=by omega
       have HB:Hid (inB 1000000 l=true):=Lib.hid (inB_all 1000000 l (fun i hi=>HS.out i hi (by omega)))
       subst hkk
       go_wp2_with fail
       go_ret
       exact ⟨by rw [HF.out,HB.out];rfl,rfl⟩
 · have d3:(((l.length:Nat):Int) == items)=false:=by rw [beq_eq_false_iff_ne];exact h3
   have d4:(((l.length:Nat):Int) != items)=true:=by rw [bne,d3];rfl
   have HF:=Lib.hid (okB_no2 l items h3)
   clear h1 h2 h3
   go_enter Tryz.func162,Tryz.ntmps162
   go_wp2_with fail
   go_ret
   exact ⟨by rw [HF.out];rfl,rfl⟩
theorem ordC_no (n:Nat) (l:List Int) (h:l.length≠n):ordC n l=false:=by unfold ordC;rw [decide_eq_false h];rfl
theorem ordC_no2 (n i:Nat) (l:List Int) (hi:i<n) (h:¬ (i:Int) ∈ l):ordC n l=false:=by
 unfold ordC
 rw [Bool.and_eq_false_iff]
 refine .inr (Bool.eq_false_iff.2 fun e=>h ?_)
 exact of_decide_eq_true (List.all_eq_true.1 e i (List.mem_range.2 hi))
theorem ordC_yes (n:Nat) (l:List Int) (h0:l.length=n) (h:∀ i,i<n→(i:Int) ∈ l):ordC n l=true:=by
 unfold ordC
 rw [decide_eq_true h0,Bool.true_and,List.all_eq_true]
 exact fun i hi=>decide_eq_true (h i (List.mem_range.1 hi))
theorem take_mem (z:Int) (l:List Int) (k:Nat) (h:k<l.length):decide (z ∈ l.take (k+1))=(decide (z ∈ l.take k) || decide (l[k]=z)):=by
 rw [List.take_succ_eq_append_getElem h]
 simp only [List.mem_append,List.mem_singleton,Bool.decide_or]
 congr 1
 exact decide_eq_decide.2 eq_comm
set_option maxHeartbeats 4000000 in
theorem rorder_any (a:Option Addr) (n c many:Nat) (l:List Int) (w:World) (hl:IsI w a n c l) (hmany:many≤4611686018427387904) :
   Calls Tryz.prog 73 #[.slice a n c,.int .i64 many] w fun e w' => e=.returned (.bool (ordC many l))∧w=w':=by
 obtain ⟨rfl,hlc,hcm,hcells⟩:=hl
 have hm:l.length≤9223372036854775807:=by unfold maxLen at hcm;omega
 have HC:Hid (∀ k (h:k<l.length),∃ b off,a=some ⟨b,off,none⟩∧w.cell? ⟨b,off+k,none⟩=some (.int .i64 l[k])):=Lib.hid fun k hk=>by
   rcases hcells with ⟨h0,_⟩ | ⟨b,off,ha,_,h⟩
   · rw [h0] at hk;simp at hk
   · exact ⟨b,off,ha,h k hk⟩
 clear hcells hcm hlc
 by_cases h1:l.length=many
 · subst h1
   obtain ⟨N,hN⟩:∃ N,N=l.length:=⟨_,rfl⟩
   have HN:=Lib.hid hN
   have hb:l.length≤4611686018427387904:=hmany
   clear hN hm hmany
   go_enter Tryz.func73,Tryz.ntmps73
   go_wp2_with fail
   go_loop [5] (fun i => ∃ k:Nat,k≤l.length∧i=.int .i64 k∧Hid (∀ j,j<k→(j:Int) ∈ l)) (fun i=>N - (intOf i).toNat)
   case atStart=>exact ⟨0,Nat.zero_le _,rfl,Lib.hid (fun j h=>by omega)⟩
   case round =>
     obtain ⟨i,hi,rfl,HS⟩:=hrel
     by_cases hlt:i<l.length
     · go_wp2_with fail
       go_loop [6,7] (fun q k => ∃ (j:Nat) (b:Bool),j≤l.length∧k=.int .i64 j∧q=.bool b∧Hid (b=decide ((i:Int) ∈ l.take j))) (fun _ k=>N - (intOf k).toNat)
       case atStart=>exact ⟨0,false,Nat.zero_le _,rfl,rfl,Lib.hid (by simp)⟩
       case round =>
         obtain ⟨j,b,hj,rfl,rfl,HB⟩:=hrel
         by_cases hjt:j<l.length
         · obtain ⟨lb,lo,rfl,hcell⟩:=HC.out j hjt
           have HT:=Lib.hid (take_mem (i:Int) l j hjt)
           cases b with
           | true =>
             clear hcell
             go_wp2_with fail
             go_round
             case rel=>exact ⟨j+1,true,by omega,by go_num,rfl,Lib.hid (by rw [HT.out,← HB.out];rfl)⟩
             case measure=>have:=HN.out;simp [intOf];omega
           | false =>
             by_cases he:l[j]=(i:Int)
             · have d5:(l[j] == (i:Int))=true:=by rw [beq_iff_eq];exact he
               have HE:Hid (decide ((i:Int) ∈ l.take (j+1))=true):=Lib.hid (by rw [HT.out,decide_eq_true he,Bool.or_true])
               clear he HT HB
               generalize l[j]=z at hcell d5
               go_wp2_with fail
               go_round
               case rel=>exact ⟨j+1,true,by omega,by go_num,rfl,Lib.hid HE.out.symm⟩
               case measure=>have:=HN.out;simp [intOf];omega
             · have d5:(l[j] == (i:Int))=false:=by rw [beq_eq_false_iff_ne];exact he
               have HE:Hid (decide ((i:Int) ∈ l.take (j+1))=false):=Lib.hid (by rw [HT.out,decide_eq_false he,← HB.out];rfl)
               clear he HT HB
               generalize l[j]=z at hcell d5
               go_wp2_with fail
               go_round
               case rel=>exact ⟨j+1,false,by omega,by go_num,rfl,Lib.hid HE.out.symm⟩
               case measure=>have:=HN.out;simp [intOf];omega
         · have hjj:j=l.length:=by omega
           subst hjj
           cases b with
           | true =>
             have HI:Hid (∀ j,j<i+1→(j:Int) ∈ l):=Lib.hid (fun j h=>by
               by_cases hji:j=i
               · subst hji
                 have:=HB.out.symm
                 rw [decide_eq_true_eq,List.take_length] at this
                 exact this
               · exact HS.out j (by omega))
             clear HB HS
             go_wp2_with fail
             go_round
             case rel=>exact ⟨i+1,by omega,by go_num,HI⟩
             case measure=>have:=HN.out;simp [intOf];omega
           | false =>
             have HF:Hid (ordC l.length l=false):=Lib.hid (ordC_no2 l.length i l hlt (by
               have:=HB.out.symm
               rw [decide_eq_false_iff_not,List.take_length] at this
               exact this))
             clear HB HS
             go_wp2_with fail
             go_ret
             exact ⟨by rw [HF.out];rfl,rfl⟩
     · have hii:i=l.length:=by omega
       have HF:Hid (ordC l.length l=true):=Lib.hid (ordC_yes l.length l rfl (fun j hj=>HS.out j (by omega)))
       subst hii
       go_wp2_with fail
       go_ret
       exact ⟨by rw [HF.out];rfl,rfl⟩
 · have d3:(((l.length:Nat):Int) == (many:Int))=false:=by rw [beq_eq_false_iff_ne];omega
   have d4:(((l.length:Nat):Int) != (many:Int))=true:=by rw [bne,d3];rfl
   have HF:=Lib.hid (ordC_no many l h1)
   clear h1
   go_enter Tryz.func73,Tryz.ntmps73
   go_wp2_with fail
   go_ret
   exact ⟨by rw [HF.out];rfl,rfl⟩
structure IsRS (w:World) (ts B rd rl rc:Nat) (x:StA) (c:StC) (R:Dsk):Prop where
 cells:w.heap[ts]?=some (.cells ([Value.pointer (some ⟨rd,0,none⟩)] ++ x.cells c.t).toArray 115 (0,0))
 disk:IsRef w B rd rl rc R
 cfg:IsCf w (fun k => ¬ (k=rd∨k=rl)) x c
 ne:¬ (ts=rd∨ts=rl)
theorem IsRS.below {w w':World} {ts B rd rl rc:Nat} {x:StA} {c:StC} {R:Dsk} (h:IsRS w ts B rd rl rc x c R) (hb:Below w.heap.size w w'):IsRS w' ts B rd rl rc x c R :=
 ⟨below_heap hb h.cells (lt_of_heap h.cells),h.disk.below hb,h.cfg.below hb,h.ne⟩
theorem IsRS.put {w w':World} {ts B rd rl rc:Nat} {x:StA} {c:StC} {R R':Dsk} (h:IsRS w ts B rd rl rc x c R) (ht:Touch (fun k=>k=rd∨k=rl) w w') (hd:IsRef w' B rd rl rc R'):IsRS w' ts B rd rl rc x c R' :=
 ⟨ht.heap h.cells h.ne,hd,h.cfg.touch ht (fun k hk=>hk),h.ne⟩
theorem IsRS.f {w:World} {ts B rd rl rc:Nat} {x:StA} {c:StC} {R:Dsk} (h:IsRS w ts B rd rl rc x c R) :
   w.cell? ⟨ts,0,none⟩=some (.pointer (some ⟨rd,0,none⟩))∧w.cell? ⟨ts,1,none⟩=some (.slice x.ra c.r.length x.rc)∧w.cell? ⟨ts,2,none⟩=some (.slice x.sa c.s.length x.sc):=by
 refine ⟨?_,?_,?_⟩
 · rw [cell_of_block h.cells];rfl
 · rw [cell_of_block h.cells,← h.cfg.r.1.1];rfl
 · rw [cell_of_block h.cells,← h.cfg.s.1];rfl
set_option maxHeartbeats 2000000 in
theorem rfits_any (ts B rd rl rc:Nat) (x:StA) (c:StC) (R:Dsk) (sq:Nat) (st:Bool) (a:Option Addr) (n cap:Nat) (l:List Int) (w:World) (h:IsRS w ts B rd rl rc x c R) (hI:IsI w a n cap l) (hr:c.r.length≤1000000) :
   Calls Tryz.prog 86 #[.pointer (some ⟨ts,0,none⟩),.agg #[.int .u32 sq,.bool st,.slice a n cap]] w fun e w' => e=.returned (.bool (fitsC c.r.length ⟨sq,st,l⟩))∧Below w.heap.size w w':=by
 obtain rfl:=hI.1
 have hb0:Below w.heap.size w (w.alloc (.cells #[.int .u32 sq,.bool st,.slice a l.length cap] 60)):=(Below.refl _ _).alloc (Nat.le_refl _) _
 have hv:=heap_new w (.cells #[.int .u32 sq,.bool st,.slice a l.length cap] 60 (0,0))
 have hst:=h.below hb0
 have hI0:=hI.below hb0
 clear h hI
 cases st with
 | true =>
   have HF:Hid (fitsC c.r.length ⟨sq,true,l⟩=okB l (c.r.length:Int)):=Lib.hid (by rw [okB_eq];rfl)
   go_enter Tryz.func86,Tryz.ntmps86
   go_wp2_with fail
   generalize w.alloc (.cells #[.int .u32 sq,.bool true,.slice a l.length cap] 60)=w0 at hb0 hv hst hI0 ⊢
   have f0:=hst.f.2.1
   have q2:w0.cell? ⟨w.heap.size,2,none⟩=some (.slice a l.length cap):=by rw [cell_of_block hv];rfl
   have hd0:=(Below.refl w0.heap.size w0).drew
   go_region_held3 (fun w' => w'.cell? ⟨w.heap.size,2,none⟩=some (.slice a l.length cap)∧w'.cell? ⟨ts,1,none⟩=some (.slice x.ra c.r.length x.rc)) (with_reducible exact ⟨cell_later hd0 q2,cell_later hd0 f0⟩) (first
     | (go_at_call 162;((with_reducible refine (rcheck_any a l.length cap l (c.r.length:Int) w0.drew (hI0.below hd0) ⟨by omega,by omega⟩).mono ?_);rintro e w1 ⟨rfl,rfl⟩))
     | fail)
   go_wp2_with fail
   go_ret
   exact ⟨by rw [HF.out];rfl,hb0.trans (hd0.mono hb0.size)⟩
 | false =>
   have HF:Hid (fitsC c.r.length ⟨sq,false,l⟩=((l.length:Int) == 0)):=Lib.hid (by unfold fitsC;cases l <;> simp;omega)
   clear hst hI0
   go_enter Tryz.func86,Tryz.ntmps86
   go_wp2_with fail
   go_ret
   exact ⟨by rw [HF.out];rfl,hb0⟩
theorem bb_cell {w:World} {P:Nat→Prop} {a:Option Addr} {n c:Nat} {vs:List Value} {L:List (List UInt8)} (h:IsBBp w P a n c vs L) (k:Nat) (hk:k<L.length):∃ b off x y z,a=some ⟨b,off,none⟩∧b<w.heap.size∧w.cell? ⟨b,off+k,none⟩=some (.slice x y z)∧IsBp w P x y z L[k]:=by
 obtain ⟨_,_,_,⟨hl,hv⟩,h0 | ⟨b,off,ha,_,hlt,hc⟩⟩:=h
 · rw [h0] at hk;simp at hk
 obtain ⟨x,y,z,h1,h2⟩:=hv k hk
 have hkv:k<vs.length:=by omega
 rw [List.getElem?_eq_getElem hkv] at h1
 exact ⟨b,off,x,y,z,ha,hlt,by rw [hc k hkv,Option.some.inj h1],h2⟩
theorem allS_no (L:List (List UInt8)) (k:Nat) (hk:k<L.length) (h:secB L[k]=false):L.all secB=false:=by
 rw [Bool.eq_false_iff]
 intro e
 have:=List.all_eq_true.1 e L[k] (List.getElem_mem hk)
 rw [h] at this;cases this
theorem allS_yes (L:List (List UInt8)) (h:∀ j (hj:j<L.length),secB L[j]=true):L.all secB=true :=
 List.all_eq_true.2 fun x hx=>by obtain ⟨i,hi,rfl⟩:=List.getElem_of_mem hx;exact h i hi
set_option maxHeartbeats 8000000 in
theorem rmay_any (P:Nat→Prop) (x:StA) (c:StC) (w:World) (h:IsCf w P x c) :
   Calls Tryz.prog 58 #[.agg (x.cells c.t).toArray] w fun e w' => e=.returned (.bool (mayB c))∧Below w.heap.size w w':=by
 obtain ⟨ra,rn,rc,sa,sn,sc,sv,aa,an,ac,ua,un,uc⟩:=x
 obtain ⟨hr,hs,ha,hu,ht⟩:=h
 dsimp only at hr hs ha hu ⊢
 unfold StA.cells
 dsimp only
 have hb0:Below w.heap.size w (w.alloc (.cells #[.slice ra rn rc,.slice sa sn sc,.slice aa an ac,.slice ua un uc,.int .u64 (c.t:Int)] 27)):=(Below.refl _ _).alloc (Nat.le_refl _) _
 have hv:=heap_new w (.cells #[.slice ra rn rc,.slice sa sn sc,.slice aa an ac,.slice ua un uc,.int .u64 (c.t:Int)] 27 (0,0))
 obtain rfl:=hr.1.1
 obtain rfl:=hs.1
 have han:=ha.1.1
 have hun:=hu.1.1
 have ham:c.a.length≤9223372036854775807:=by have:=ha.1.2.1;have:=ha.1.2.2.1;unfold maxLen at this;omega
 have hum:c.u.length≤9223372036854775807:=by have:=hu.1.2.1;have:=hu.1.2.2.1;unfold maxLen at this;omega
 have hrb:=hr.1.below hb0
 have hsb:=hs.below hb0
 have HE:Hid ((w.alloc (.cells #[.slice ra c.r.length rc,.slice sa c.s.length sc,.slice aa an ac,.slice ua un uc,.int .u64 (c.t:Int)] 27))=(w.alloc (.cells #[.slice ra c.r.length rc,.slice sa c.s.length sc,.slice aa an ac,.slice ua un uc,.int .u64 (c.t:Int)] 27))):=Lib.hid rfl
 have HMB:Hid (mayB c=(decide (1≤c.r.length) && decide (c.r.length≤8) && decide (1≤c.s.length) && decide (c.s.length≤8) && decide (c.t≤1099511627776) && okB c.r c.r.length && secB c.a && secB c.u && c.s.all secB)):=Lib.hid rfl
 have HR:=Lib.hid hrb
 have HS:=Lib.hid hsb
 have HAN:=Lib.hid han
 have HUN:=Lib.hid hun
 have HV:=Lib.hid hv
 have HB:=Lib.hid hb0
 clear hr hs ha hu hrb hsb hv han hun hb0
 by_cases h1:c.r.length<1
 · have d1:decide ((c.r.length:Int)<1)=true:=decide_eq_true (by omega)
   have HF:Hid (mayB c=false):=Lib.hid (by rw [HMB.out,decide_eq_false (show ¬ 1≤c.r.length by omega)];simp)
   clear h1
   go_enter Tryz.func58,Tryz.ntmps58
   go_wp2_with fail
   go_ret
   exact ⟨by rw [HF.out];rfl,HB.out⟩
 have d1:decide ((c.r.length:Int)<1)=false:=decide_eq_false (by omega)
 by_cases h2:8<c.r.length
 · have d2:decide ((8:Int)<(c.r.length:Int))=true:=decide_eq_true (by omega)
   have HF:Hid (mayB c=false):=Lib.hid (by rw [HMB.out,decide_eq_false (show ¬ c.r.length≤8 by omega)];simp)
   clear h1 h2
   go_enter Tryz.func58,Tryz.ntmps58
   go_wp2_with fail
   go_ret
   exact ⟨by rw [HF.out];rfl,HB.out⟩
 have d2:decide ((8:Int)<(c.r.length:Int))=false:=decide_eq_false (by omega)
 by_cases h3:c.s.length<1
 · have d3:decide ((c.s.length:Int)<1)=true:=decide_eq_true (by omega)
   have HF:Hid (mayB c=false):=Lib.hid (by rw [HMB.out,decide_eq_false (show ¬ 1≤c.s.length by omega)];simp)
   clear h1 h2 h3
   go_enter Tryz.func58,Tryz.ntmps58
   go_wp2_with fail
   go_ret
   exact ⟨by rw [HF.out];rfl,HB.out⟩
 have d3:decide ((c.s.length:Int)<1)=false:=decide_eq_false (by omega)
 by_cases h4:8<c.s.length
 · have d4:decide ((8:Int)<(c.s.length:Int))=true:=decide_eq_true (by omega)
   have HF:Hid (mayB c=false):=Lib.hid (by rw [HMB.out,decide_eq_false (show ¬ c.s.length≤8 by omega)];simp)
   clear h1 h2 h3 h4
   go_enter Tryz.func58,Tryz.ntmps58
   go_wp2_with fail
   go_ret
   exact ⟨by rw [HF.out];rfl,HB.out⟩
 have d4:decide ((8:Int)<(c.s.length:Int))=false:=decide_eq_false (by omega)
 have E1:Hid (mayB c=(decide (c.t≤1099511627776) && inB 1000000 c.r && secB c.a && secB c.u && c.s.all secB)):=Lib.hid (by rw [HMB.out,okB_in c.r _ (by omega) rfl,decide_eq_true (show 1≤c.r.length by omega),decide_eq_true (show c.r.length≤8 by omega),decide_eq_true (show 1≤c.s.length by omega),decide_eq_true (show c.s.length≤8 by omega)];simp)
 clear HMB h1 h2 h3 h4
 go_enter Tryz.func58,Tryz.ntmps58
 go_wp2_with fail
 generalize w.alloc (.cells #[.slice ra c.r.length rc,.slice sa c.s.length sc,.slice aa an ac,.slice ua un uc,.int .u64 (c.t:Int)] 27)=w0 at HB HV HR HS ⊢
 have f0:w0.cell? ⟨w.heap.size,0,none⟩=some (.slice ra c.r.length rc):=by rw [cell_of_block HV.out];rfl
 have f1:w0.cell? ⟨w.heap.size,1,none⟩=some (.slice sa c.s.length sc):=by rw [cell_of_block HV.out];rfl
 have f3:w0.cell? ⟨w.heap.size,3,none⟩=some (.slice ua un uc):=by rw [cell_of_block HV.out];rfl
 have f4:w0.cell? ⟨w.heap.size,4,none⟩=some (.int .u64 (c.t:Int)):=by rw [cell_of_block HV.out];rfl
 refine (rsecret_any aa an ac c.a w0 HAN.out ham).mono ?_;rintro e _ ⟨rfl,rfl⟩
 cases hk2:secB c.a with
 | false =>
   have HF:Hid (mayB c=false):=Lib.hid (by rw [E1.out,hk2];simp)
   clear hk2
   go_wp2_with fail
   go_ret
   exact ⟨by rw [HF.out];rfl,HB.out⟩
 | true =>
 have K2:=Lib.hid hk2
 clear hk2
 go_wp2_with fail
 refine (rsecret_any ua un uc c.u w0 HUN.out hum).mono ?_;rintro e _ ⟨rfl,rfl⟩
 cases hk3:secB c.u with
 | false =>
   have HF:Hid (mayB c=false):=Lib.hid (by rw [E1.out,hk3];simp)
   clear hk3
   go_wp2_with fail
   go_ret
   exact ⟨by rw [HF.out];rfl,HB.out⟩
 | true =>
 have K3:=Lib.hid hk3
 clear hk3
 by_cases h5:1099511627776<c.t
 · have d5:decide ((1099511627776:Int)<(c.t:Int))=true:=decide_eq_true (by omega)
   have HF:Hid (mayB c=false):=Lib.hid (by rw [E1.out,decide_eq_false (show ¬ c.t≤1099511627776 by omega)];simp)
   clear h5
   go_wp2_with fail
   go_ret
   exact ⟨by rw [HF.out];rfl,HB.out⟩
 have d5:decide ((1099511627776:Int)<(c.t:Int))=false:=decide_eq_false (by omega)
 have E2:Hid (mayB c=(inB 1000000 c.r && c.s.all secB)):=Lib.hid (by rw [E1.out,K2.out,K3.out,decide_eq_true (show c.t≤1099511627776 by omega)];simp)
 have hm1:c.r.length≤8:=by simp at d2;omega
 have hm2:c.s.length≤8:=by simp at d4;omega
 clear E1 K2 K3 h5
 go_wp2_with fail
 obtain ⟨N,hN⟩:∃ N,N=c.r.length:=⟨_,rfl⟩
 have HN:=Lib.hid hN
 clear hN
 go_loop [3] (fun i => ∃ k:Nat,k≤c.r.length∧i=.int .i64 k∧Hid (∀ j (hj:j<c.r.length),j<k→0≤c.r[j]∧c.r[j]≤1000000)) (fun i=>N - (intOf i).toNat)
 case atStart=>exact ⟨0,Nat.zero_le _,rfl,Lib.hid (fun j hj h=>by omega)⟩
 case round =>
   obtain ⟨k,hk,rfl,HQ⟩:=hrel
   by_cases hlt:k<c.r.length
   · obtain ⟨b,off,rfl,hcell⟩:∃ b off,ra=some ⟨b,off,none⟩∧w0.cell? ⟨b,off+k,none⟩=some (.int .i64 c.r[k]):=by
       rcases HR.out.2.2.2 with ⟨h0,_⟩ | ⟨b,off,ha,_,h⟩
       · rw [h0] at hlt;simp at hlt
       · exact ⟨b,off,ha,h k hlt⟩
     by_cases h1:c.r[k]<0
     · have HF:Hid (mayB c=false):=Lib.hid (by rw [E2.out,inB_bad 1000000 c.r k hlt (.inl h1)];rfl)
       have d1:decide (c.r[k]<0)=true:=decide_eq_true h1
       generalize c.r[k]=z at hcell h1 d1
       go_wp2_with fail
       go_ret
       exact ⟨by rw [HF.out];rfl,HB.out⟩
     · have d1:decide (c.r[k]<0)=false:=decide_eq_false h1
       by_cases h2:1000000<c.r[k]
       · have HF:Hid (mayB c=false):=Lib.hid (by rw [E2.out,inB_bad 1000000 c.r k hlt (.inr h2)];rfl)
         have d2:decide ((1000000:Int)<c.r[k])=true:=decide_eq_true h2
         generalize c.r[k]=z at hcell h1 h2 d1 d2
         go_wp2_with fail
         go_ret
         exact ⟨by rw [HF.out];rfl,HB.out⟩
       · have d2:decide ((1000000:Int)<c.r[k])=false:=decide_eq_false h2
         have HQ2:Hid (∀ j (hj:j<c.r.length),j<k+1→0≤c.r[j]∧c.r[j]≤1000000):=Lib.hid (fun j hj h=>by
           by_cases hjk:j=k
           · subst hjk;exact ⟨by omega,by omega⟩
           · exact HQ.out j hj (by omega))
         generalize c.r[k]=z at hcell h1 h2 d1 d2
         go_wp2_with fail
         go_round
         case rel=>exact ⟨k+1,by omega,by go_num,HQ2⟩
         case measure=>have:=HN.out;simp [intOf];omega
   · have hkk:k=c.r.length:=by omega
     have E3:Hid (mayB c=c.s.all secB):=Lib.hid (by rw [E2.out,inB_all 1000000 c.r (fun i hi=>HQ.out i hi (by omega))];rfl)
     subst hkk
     clear HQ E2 HN hlt
     obtain ⟨M,hM⟩:∃ M,M=c.s.length:=⟨_,rfl⟩
     have HM:=Lib.hid hM
     clear hM
     go_wp2_with fail
     go_loop [4] (fun i => ∃ k:Nat,k≤c.s.length∧i=.int .i64 k∧Hid (∀ j (hj:j<c.s.length),j<k→secB c.s[j]=true)) (fun i=>M - (intOf i).toNat)
     case atStart=>exact ⟨0,Nat.zero_le _,rfl,Lib.hid (fun j hj h=>by omega)⟩
     case round =>
       obtain ⟨k,hk,rfl,HQ⟩:=hrel
       by_cases hlt:k<c.s.length
       · obtain ⟨b,off,x,y,z,rfl,hbl,hcell,hxb⟩:=bb_cell HS.out k hlt
         have HX:=Lib.hid hxb.1
         have hxl:y=c.s[k].length:=hxb.1.1
         have HXL:=Lib.hid hxl
         have hxm:c.s[k].length≤9223372036854775807:=by have:=hxb.1.2.1;have:=hxb.1.2.2.1;unfold maxLen at this;omega
         clear hxb hxl
         go_wp2_with fail
         refine (rsecret_any x y z c.s[k] w0 HXL.out hxm).mono ?_;rintro e _ ⟨rfl,rfl⟩
         cases hq:secB c.s[k] with
         | false =>
           have HF:Hid (mayB c=false):=Lib.hid (by rw [E3.out,allS_no c.s k hlt hq])
           clear hq
           go_wp2_with fail
           go_ret
           exact ⟨by rw [HF.out];rfl,HB.out⟩
         | true =>
           have HQ2:Hid (∀ j (hj:j<c.s.length),j<k+1→secB c.s[j]=true):=Lib.hid (fun j hj h=>by
             by_cases hjk:j=k
             · subst hjk;exact hq
             · exact HQ.out j hj (by omega))
           clear hq
           go_wp2_with fail
           go_round
           case rel=>exact ⟨k+1,by omega,by go_num,HQ2⟩
           case measure=>have:=HM.out;simp [intOf];omega
       · have hkk:k=c.s.length:=by omega
         have HF:Hid (mayB c=true):=Lib.hid (by rw [E3.out,allS_yes c.s (fun j hj=>HQ.out j hj (by omega))])
         clear HQ E3 hlt
         subst hkk
         go_wp2_with fail
         go_ret
         exact ⟨by rw [HF.out];rfl,HB.out⟩
theorem decN_back {k:Nat} {b r:List UInt8} {v:Nat} (h:decN k b=some (v,r)):b=leB v k ++ r∧v<256 ^ k:=by
 unfold decN at h
 split at h
 · cases h
 · obtain ⟨rfl,rfl⟩:=Prod.mk.inj (Option.some.inj h)
   have hk:(b.take k).length=k:=by rw [List.length_take];omega
   have h1:=leB_numOf (b.take k)
   have h2:=numOf_lt (b.take k)
   rw [hk] at h1 h2
   exact ⟨by rw [h1,List.take_append_drop],h2⟩
theorem u64n_nat (n:Nat) (h:n<18446744073709551616):u64n (n:Int)=n:=by
 unfold u64n
 rw [IntKind.wrap_u64]
 omega
theorem decI_back:∀ (n:Nat) (b:List UInt8),4*n≤b.length→encI (decI n b)=b.take (4*n)
 | 0,b,_=>by simp [decI,encI]
 | n+1,b,h=>by
   have hk:(b.take 4).length=4:=by rw [List.length_take];omega
   have h1:=leB_numOf (b.take 4)
   have h2:=numOf_lt (b.take 4)
   rw [hk] at h1 h2
   have h3:=decI_back n (b.drop 4) (by rw [List.length_drop];omega)
   have h4:numOf (b.take 4)<18446744073709551616:=Nat.lt_of_lt_of_le h2 (by decide)
   show leB (u64n (numOf (b.take 4):Int)) 4 ++ encI (decI n (b.drop 4))=_
   rw [u64n_nat _ h4,h1,h3,show 4*(n+1)=4+4*n by omega,List.take_add]
theorem decL_back {b r:List UInt8} {l:List Int} (h:decL b=some (l,r)):b=encL l ++ r:=by
 cases b with
 | nil=>cases h
 | cons x t =>
   by_cases hl:t.length<4*x.toNat
   · rw [decL_short x t hl] at h;cases h
   rw [decL_some x t hl] at h
   obtain ⟨rfl,rfl⟩:=Prod.mk.inj (Option.some.inj h)
   have hx:=x.toNat_lt
   have ht:(decI x.toNat t).take 255=decI x.toNat t:=List.take_of_length_le (by rw [decI_length];omega)
   unfold encL
   rw [ht,decI_length,decI_back _ _ (by omega)]
   have e1:leB x.toNat 1=[x]:=by simp [leB]
   rw [e1,List.append_assoc,List.take_append_drop];rfl
theorem decB_back {b r l:List UInt8} (h:decB b=some (l,r)):b=encB l ++ r:=by
 unfold decB at h
 split at h
 · cases h
 · rename_i h2
   split at h
   · cases h
   · rename_i h3
     obtain ⟨rfl,rfl⟩:=Prod.mk.inj (Option.some.inj h)
     have hk:(b.take 2).length=2:=by rw [List.length_take];omega
     have h4:=leB_numOf (b.take 2)
     have h5:=numOf_lt (b.take 2)
     rw [hk] at h4 h5
     have hll:((b.drop 2).take (numOf (b.take 2))).length=numOf (b.take 2):=by rw [List.length_take,List.length_drop];omega
     have ht:((b.drop 2).take (numOf (b.take 2))).take 65535=(b.drop 2).take (numOf (b.take 2)):=List.take_of_length_le (by rw [hll];omega)
     unfold encB
     rw [ht,hll,h4,← List.drop_drop,List.append_assoc,List.take_append_drop,List.take_append_drop]
theorem decBs_back:∀ {n:Nat} {b r:List UInt8} {s:List (List UInt8)},decBs n b=some (s,r)→b=encBs s ++ r
 | 0,b,r,s,h=>by
   obtain ⟨rfl,rfl⟩:=Prod.mk.inj (Option.some.inj h)
   rfl
 | n+1,b,r,s,h=>by
   unfold decBs at h
   cases h1:decB b with
   | none=>rw [h1] at h;cases h
   | some y =>
     obtain ⟨x,r1⟩:=y
     rw [h1] at h
     dsimp only at h
     cases h2:decBs n r1 with
     | none=>rw [h2] at h;cases h
     | some z =>
       obtain ⟨l,r2⟩:=z
       rw [h2] at h
       obtain ⟨rfl,rfl⟩:=Prod.mk.inj (Option.some.inj h)
       rw [decB_back h1,decBs_back h2]
       simp only [encBs,List.append_assoc]
def ofRows (r:List Int) (n:Nat) (ss:List (List UInt8)) (t:Nat):StC:=⟨r,ss.take n,ss.getD n [],ss.getD (n+1) [],t⟩
theorem dk2_none {r:List Int} {n:Nat} {b:List UInt8} (h:decBs (n+2) b=none):dk2 r n b=none:=by
 rw [decBs_succ (n+1),decBs_succ n] at h
 unfold dk2
 cases h1:decBs n b with
 | none=>rfl
 | some y =>
   obtain ⟨s,r1⟩:=y
   rw [h1] at h
   dsimp only at h ⊢
   unfold dk3
   cases h2:decB r1 with
   | none=>rfl
   | some y2 =>
     obtain ⟨a,r2⟩:=y2
     rw [h2] at h
     dsimp only at h ⊢
     unfold dk4
     cases h3:decB r2 with
     | none=>rfl
     | some y3=>rw [h3] at h;cases h
theorem dk2_some {r:List Int} {n:Nat} {b b5:List UInt8} {ss:List (List UInt8)} (h:decBs (n+2) b=some (ss,b5)):dk2 r n b=dk5 r (ss.take n) (ss.getD n []) (ss.getD (n+1) []) b5∧ss.length=n+2:=by
 rw [decBs_succ (n+1),decBs_succ n] at h
 unfold dk2
 cases h1:decBs n b with
 | none=>rw [h1] at h;cases h
 | some y =>
   obtain ⟨s,r1⟩:=y
   rw [h1] at h
   dsimp only at h ⊢
   unfold dk3
   cases h2:decB r1 with
   | none=>rw [h2] at h;cases h
   | some y2 =>
     obtain ⟨a,r2⟩:=y2
     rw [h2] at h
     dsimp only at h ⊢
     unfold dk4
     cases h3:decB r2 with
     | none=>rw [h3] at h;cases h
     | some y3 =>
       obtain ⟨u,r3⟩:=y3
       rw [h3] at h
       dsimp only at h ⊢
       obtain ⟨rfl,rfl⟩:=Prod.mk.inj (Option.some.inj h)
       have hs:=decBs_length h1
       refine ⟨?_,by simp [hs]⟩
       have e1:(s ++ [a] ++ [u]).take n=s:=by rw [List.append_assoc,List.take_append_of_le_length (by omega),List.take_of_length_le (by omega)]
       have e2:(s ++ [a] ++ [u]).getD n []=a:=by simp [List.getD,← hs]
       have e3:(s ++ [a] ++ [u]).getD (n+1) []=u:=by simp [List.getD,← hs]
       rw [e1,e2,e3]
theorem getC_rows {b0 b1 b2 b5 b6:List UInt8} {r:List Int} {n t:Nat} {ss:List (List UInt8)} (h1:decL b0=some (r,b1)) (h2:decN 1 b1=some (n,b2)) (h3:decBs (n+2) b2=some (ss,b5)) (h4:decN 8 b5=some (t,b6)) :
   b0=(ofRows r n ss t).enc ++ b6∧decC b0=(if b6=[] then some (ofRows r n ss t) else none)∧t<18446744073709551616∧ss.length=n+2:=by
 obtain ⟨e3,hl⟩:=dk2_some (r:=r) h3
 have k1:=decL_back h1
 obtain ⟨k2,n1⟩:=decN_back h2
 have k3:=decBs_back h3
 obtain ⟨k4,n4⟩:=decN_back h4
 refine ⟨?_,?_,n4,hl⟩
 · unfold StC.enc ofRows
   dsimp only
   have e:ss.take n ++ [ss.getD n [],ss.getD (n+1) []]=ss:=by
     have a1:ss.drop n=[ss[n]'(by omega),ss[n+1]'(by omega)]:=by
       rw [List.drop_eq_getElem_cons (by omega),List.drop_eq_getElem_cons (by omega),List.drop_eq_nil_of_le (by omega)]
     have a2:ss.getD n []=ss[n]'(by omega):=by simp [List.getD,List.getElem?_eq_getElem (show n<ss.length by omega)]
     have a3:ss.getD (n+1) []=ss[n+1]'(by omega):=by simp [List.getD,List.getElem?_eq_getElem (show n+1<ss.length by omega)]
     rw [a2,a3,← a1,List.take_append_drop]
   rw [e,List.length_take,Nat.min_eq_left (by omega)]
   simp only [List.append_assoc]
   rw [← k4,← k3,← k2,← k1]
 · rw [decC_k,h1]
   dsimp only
   unfold dk1
   rw [h2]
   dsimp only
   rw [e3]
   unfold dk5
   rw [h4]
   rfl
theorem append_self {b6 l:List UInt8}:l=l ++ b6↔b6=[] :=
 ⟨fun h=>by have:=congrArg List.length h;rw [List.length_append] at this;exact List.eq_nil_of_length_eq_zero (by omega),fun h=>by rw [h,List.append_nil]⟩
theorem bcells_nat (n:Nat) (h:n<256):bcells [UInt8.ofNat n]=[Value.int .u8 (n:Int)]:=by simp [bcells];omega
theorem bcells_app (l m:List UInt8):bcells (l ++ m)=bcells l ++ bcells m:=by simp [bcells]
set_option maxHeartbeats 8000000 in
theorem rputcfg_any (P:Nat→Prop) (x:StA) (c:StC) (w:World) (h:IsCf w P x c) (hmay:c.may) :
   Calls Tryz.prog 62 #[.agg (x.cells c.t).toArray] w fun e w' => ∃ a n c',e=.returned (.slice a n c')∧Below w.heap.size w w'∧OwB1 w.heap.size w' a n c' c.enc:=by
 obtain ⟨ra,rn,rc,sa,sn,sc,sv,aa,an,ac,ua,un,uc⟩:=x
 obtain ⟨hr,hs,ha,hu,ht⟩:=h
 dsimp only at hr hs ha hu ⊢
 unfold StA.cells
 dsimp only
 have hb0:Below w.heap.size w (w.alloc (.cells #[.slice ra rn rc,.slice sa sn sc,.slice aa an ac,.slice ua un uc,.int .u64 (c.t:Int)] 27)):=(Below.refl _ _).alloc (Nat.le_refl _) _
 have hv:=heap_new w (.cells #[.slice ra rn rc,.slice sa sn sc,.slice aa an ac,.slice ua un uc,.int .u64 (c.t:Int)] 27 (0,0))
 obtain rfl:=hr.1.1
 obtain rfl:=hs.1
 have HR:=Lib.hid (hr.1.below hb0)
 have HS:=Lib.hid (hs.below hb0)
 have HA:=Lib.hid (ha.1.below hb0)
 have HU:=Lib.hid (hu.1.below hb0)
 have HV:=Lib.hid hv
 have HB:=Lib.hid hb0
 have HMAY:=Lib.hid hmay
 have HT:=Lib.hid ht
 have hr8:c.r.length≤8:=hmay.r.2.1
 have hs8:c.s.length≤8:=hmay.s.2
 have HP0:Hid (encL c.r ++ [UInt8.ofNat c.s.length]=c.part 0):=Lib.hid (by simp [StC.part,encBs,leB_one])
 have HSN:=Lib.hid (bcells_nat c.s.length (by omega))
 have hl8:(encL c.r).length≤33:=by rw [encL_length];simp;omega
 clear hr hs ha hu hv hb0 hmay ht
 go_enter Tryz.func62,Tryz.ntmps62
 go_wp2_with fail
 generalize w.alloc (.cells #[.slice ra c.r.length rc,.slice sa c.s.length sc,.slice aa an ac,.slice ua un uc,.int .u64 (c.t:Int)] 27)=w0 at HB HV HR HS HA HU ⊢
 refine (rputlist_any none 0 0 [] ra c.r.length rc c.r w0 (IsB.nil _) (by decide) HR.out (by omega)).mono ?_;rintro e w1 ⟨a1,m1,c1,rfl,hb1,hi1⟩
 rw [List.nil_append] at hi1
 have hm1:m1=(encL c.r).length:=hi1.1
 have hm1b:m1≤33:=by omega
 have H1:Hid (Below w0.heap.size w0 w1∧w1.ownsRow w0.heap.size 5 1 (.slice a1 m1 c1) m1 (bcells (encL c.r))):=Lib.hid ⟨hb1,hi1.2⟩
 have HM1:=Lib.hid hm1
 have q1:w1.cell? ⟨w.heap.size,1,none⟩=some (.slice sa c.s.length sc):=by rw [cell_of_block (below_heap hb1 HV.out (lt_of_heap HV.out))];rfl
 clear hb1 hi1 hm1 hl8
 go_wp2_with (first
   | (at_builtin;refine wpList_append_any rowU8 rfl _ _ rfl w0.heap.size _ m1 (bcells (encL c.r)) rfl (H1.out.2.alloc _) (some ⟨w1.heap.size,0,none⟩) 1 1 [.int .u8 (c.s.length:Int)] rfl rfl (At.one _ _ _) (one_cell _ rfl) (by unfold maxLen;omega) (by omega) (by have:=H1.out.1.size;simp;omega) ?_;intro b2 c2 w2 hown2 hg2 hat2)
   | fail)
 have H2:Hid (Below w0.heap.size w0 w2∧OwB1 w0.heap.size w2 b2 (m1+1) c2 (c.part 0)):=Lib.hid ⟨(H1.out.1.alloc H1.out.1.size _).grown hg2 (by have:=H1.out.1.size;simp;omega) (fun i hi=>owns_base H1.out.2 i hi),by rw [← HP0.out,List.length_append,← HM1.out];rfl,by rw [← HP0.out,bcells_app,HSN.out];exact hown2⟩
 clear hown2 hg2 hat2 q1 H1 HM1 HP0 HSN hm1b
 go_wp2_with fail
 obtain ⟨N,hN⟩:∃ N,N=c.s.length:=⟨_,rfl⟩
 have HN:=Lib.hid hN
 clear hN
 have HCS:Hid (∀ W:World,Below w0.heap.size w0 W→W.cell? ⟨w.heap.size,1,none⟩=some (.slice sa c.s.length sc)∧W.cell? ⟨w.heap.size,2,none⟩=some (.slice aa an ac)∧W.cell? ⟨w.heap.size,3,none⟩=some (.slice ua un uc)∧W.cell? ⟨w.heap.size,4,none⟩=some (.int .u64 (c.t:Int))):=Lib.hid (fun W hb=>by
   refine ⟨?_,?_,?_,?_⟩ <;> (rw [cell_of_block (below_heap hb HV.out (lt_of_heap HV.out))];rfl))
 go_loopw [4,3] (fun i s wr => ∃ j m c':Nat,∃ a',j≤c.s.length∧i=.int .i64 j∧s=.slice a' m c'∧Hid (Below w0.heap.size w0 wr∧OwB1 w0.heap.size wr a' m c' (c.part j))) (fun i _ _=>N - (intOf i).toNat)
 case atStart=>exact ⟨0,m1+1,c2,b2,Nat.zero_le _,rfl,rfl,H2⟩
 case round =>
   clear H2
   obtain ⟨j,m,c',a',hj,rfl,rfl,HO⟩:=hrel
   obtain ⟨q1,q2,q3,q4⟩:=HCS.out wr HO.out.1
   have hjl:(c.s ++ [c.a,c.u]).length=c.s.length+2:=by simp
   have HJL:=Lib.hid hjl
   clear hjl
   by_cases hlt:j<c.s.length
   · obtain ⟨b,off,x,y,z,rfl,hbl,hc,hbx⟩:=bb_cell HS.out j hlt
     have hcj:wr.cell? ⟨b,off+j,none⟩=some (.slice x y z):=(HO.out.1.cell (p:=⟨b,off+j,none⟩) hbl).trans hc
     have HX:=Lib.hid (hbx.1.below HO.out.1)
     have hx16:c.s[j].length≤65535:=by have:=HMAY.out.e c.s[j] (List.getElem_mem hlt);omega
     have HPS:Hid (c.part (j+1)=c.part j ++ encB c.s[j]):=Lib.hid (by rw [c.part_succ j (by rw [HJL.out];omega),List.getElem_append_left hlt])
     generalize c.s[j]=lj at HX HPS hx16
     have hm':=StC.part_le c HMAY.out j
     clear hc hbx q2 q3 q4
     go_wp2_with fail
     refine (rputbytes_any a' m c' (c.part j) x y z lj wr HO.out.2.isB (by omega) HX.out hx16).mono ?_;rintro e w5 ⟨a5,m5,c5,rfl,hb5,hi5⟩
     rw [← HPS.out] at hi5
     have H5:Hid (Below w0.heap.size w0 w5∧OwB1 w0.heap.size w5 a5 m5 c5 (c.part (j+1))):=Lib.hid ⟨HO.out.1.trans (hb5.mono HO.out.1.size),hi5.low HO.out.1.size⟩
     clear hb5 hi5
     go_wp2_with fail
     go_roundw
     case rel=>exact ⟨j+1,m5,c5,a5,by omega,by go_num,rfl,H5⟩
     case measure=>have:=HN.out;simp [intOf];omega
   · have hjk:j=c.s.length:=by omega
     subst hjk
     have hm':=StC.part_le c HMAY.out c.s.length
     have hm2:=StC.part_le c HMAY.out (c.s.length+1)
     have hm3:=StC.part_le c HMAY.out (c.s.length+2)
     have HPA:Hid (c.part (c.s.length+1)=c.part c.s.length ++ encB c.a):=Lib.hid (by rw [c.part_succ _ (by rw [HJL.out];omega),List.getElem_append_right (Nat.le_refl _)];simp)
     have HPU:Hid (c.part (c.s.length+2)=c.part (c.s.length+1) ++ encB c.u):=Lib.hid (by rw [c.part_succ (c.s.length+1) (by rw [HJL.out];omega),List.getElem_append_right (by omega)];simp)
     have HPE:=Lib.hid (StC.enc_part c)
     have ha16:c.a.length≤65535:=by have:=HMAY.out.a;omega
     have hu16:c.u.length≤65535:=by have:=HMAY.out.u;omega
     clear q3 q4
     go_wp2_with fail
     refine (rputbytes_any a' m c' (c.part c.s.length) aa an ac c.a wr HO.out.2.isB (by omega) (HA.out.below HO.out.1) ha16).mono ?_;rintro e w5 ⟨a5,m5,c5,rfl,hb5,hi5⟩
     rw [← HPA.out] at hi5
     have H5:Hid (Below w0.heap.size w0 w5∧OwB1 w0.heap.size w5 a5 m5 c5 (c.part (c.s.length+1))):=Lib.hid ⟨HO.out.1.trans (hb5.mono HO.out.1.size),hi5.low HO.out.1.size⟩
     obtain ⟨-,-,q3,-⟩:=HCS.out w5 H5.out.1
     clear hb5 hi5 q1 q2 HO
     go_wp2_with fail
     refine (rputbytes_any a5 m5 c5 (c.part (c.s.length+1)) ua un uc c.u w5 H5.out.2.isB (by omega) (HU.out.below H5.out.1) hu16).mono ?_;rintro e w6 ⟨a6,m6,c6,rfl,hb6,hi6⟩
     rw [← HPU.out] at hi6
     have H6:Hid (Below w0.heap.size w0 w6∧OwB1 w0.heap.size w6 a6 m6 c6 (c.part (c.s.length+2))):=Lib.hid ⟨H5.out.1.trans (hb6.mono H5.out.1.size),hi6.low H5.out.1.size⟩
     obtain ⟨-,-,-,q4⟩:=HCS.out w6 H6.out.1
     clear hb6 hi6 q3 H5
     go_wp2_with fail
     refine (rput_v a6 m6 c6 (c.part (c.s.length+2)) c.t _ 8 (m6+8) _ w6 rfl (by first | with_reducible rfl | rfl) H6.out.2.isB (by have:=H6.out.2.1;omega) (by omega) HT.out (by decide)).mono ?_;rintro e w7 ⟨a7,c7,rfl,hb7,hi7⟩
     rw [← HPE.out] at hi7
     have H7:Hid (Below w.heap.size w w7∧OwB1 w.heap.size w7 a7 (m6+8) c7 c.enc):=Lib.hid ⟨HB.out.trans ((H6.out.1.trans (hb7.mono H6.out.1.size)).mono HB.out.size),hi7.low (Nat.le_trans HB.out.size H6.out.1.size)⟩
     clear hb7 hi7 q4 H6
     go_wp2_with fail
     go_ret
     exact ⟨a7,m6+8,c7,rfl,H7.out.1,H7.out.2⟩
end Go.Proofs.YtgbikngicidbkaaGreatDoor
