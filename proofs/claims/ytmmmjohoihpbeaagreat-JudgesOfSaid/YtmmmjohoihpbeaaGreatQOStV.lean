/- The package vectors: within,Check;stores' secret;conditions: those typed. -/
import Derived.Test.YtmmmjohoihpbeaaGreatQOGSlotsRGSlotsGetGSlotsLaw2
import Derived.Test.YtmmmjohoihpbeaaGreatQOUp
import Derived.Deep.LoopGhost
namespace Go.Proofs.YtmmmjohoihpbeaaGreat
open Go.RowKit
set_option linter.unusedVariables false
set_option linter.unusedSimpArgs false
def inB (most:Int) (l:List Int):Bool:=l.all fun z=>decide (0≤z) && decide (z≤most)
theorem inB_iff (most:Int) (l:List Int):inB most l=true↔∀ z ∈ l,0≤z∧z≤most:=by simp [inB,List.all_eq_true]
theorem inB_bad (most:Int) (l:List Int) (k:Nat) (h:k<l.length) (hb:l[k]<0∨most<l[k]):inB most l=false:=by
 rw [Bool.eq_false_iff]
 intro e
 have:=(inB_iff most l).1 e l[k] (List.getElem_mem h)
 omega
theorem inB_all (most:Int) (l:List Int) (h:∀ i (hi:i<l.length),0≤l[i]∧l[i]≤most):inB most l=true :=
 (inB_iff most l).2 fun z hz=>by obtain ⟨i,hi,rfl⟩:=List.getElem_of_mem hz;exact h i hi
set_option maxHeartbeats 2000000 in
theorem within_any (most:Int) (a:Option Addr) (n c:Nat) (l:List Int) (w:World) (hl:IsI w a n c l) :
   Calls Tryz.prog 63 #[.int .i64 most,.slice a n c] w fun e w' => e=.returned (.bool (inB most l))∧w=w':=by
 obtain ⟨rfl,hlc,hcm,hcells⟩:=hl
 have hm:l.length≤9223372036854775807:=by unfold maxLen at hcm;omega
 have hc:Hid (∀ k (h:k<l.length),∃ b off,a=some ⟨b,off,none⟩∧w.cell? ⟨b,off+k,none⟩=some (.int .i64 l[k])):=Lib.hid fun k hk=>by
   rcases hcells with ⟨h0,_⟩ | ⟨b,off,ha,_,h⟩
   · rw [h0] at hk;simp at hk
   · exact ⟨b,off,ha,h k hk⟩
 clear hcells hcm hlc
 obtain ⟨N,hN⟩:∃ N,N=l.length:=⟨_,rfl⟩
 have HN:=Lib.hid hN
 clear hN
 go_enter Tryz.func63,Tryz.ntmps63
 go_wp2
 go_step3
 go_wp2
 go_step3
 go_wp2
 go_loop [12,5] (fun i s => ∃ k:Nat,k≤l.length∧i=.int .i64 k∧s=.int .i64 ((l.length:Int) - k)∧Hid (∀ j (hj:j<l.length),j<k→0≤l[j]∧l[j]≤most)) (fun i _=>N - (intOf i).toNat)
 case atStart=>exact ⟨0,Nat.zero_le _,rfl,by simp,Lib.hid (fun j hj h=>by omega)⟩
 case round =>
   obtain ⟨k,hk,rfl,rfl,HS⟩:=hrel
   by_cases hlt:k<l.length
   · obtain ⟨b,off,rfl,hcell⟩:=hc.out k hlt
     by_cases h1:l[k]<0
     · have HB:=Lib.hid (inB_bad most l k hlt (.inl h1))
       have d1:decide (l[k]<0)=true:=decide_eq_true h1
       have d2:((l.length:Int) - (k:Int) == 0)=false:=by rw [beq_eq_false_iff_ne];omega
       generalize l[k]=z at hcell h1 d1
       go_wp2
       go_ret
       exact ⟨by rw [HB.out];rfl,rfl⟩
     · have d1:decide (l[k]<0)=false:=decide_eq_false h1
       by_cases h2:most<l[k]
       · have HB:=Lib.hid (inB_bad most l k hlt (.inr h2))
         have d2:decide (most<l[k])=true:=decide_eq_true h2
         have d3:((l.length:Int) - (k:Int) == 0)=false:=by rw [beq_eq_false_iff_ne];omega
         generalize l[k]=z at hcell h1 h2 d1 d2
         go_wp2
         go_ret
         exact ⟨by rw [HB.out];rfl,rfl⟩
       · have d2:decide (most<l[k])=false:=decide_eq_false h2
         have HS2:Hid (∀ j (hj:j<l.length),j<k+1→0≤l[j]∧l[j]≤most):=Lib.hid (fun j hj h=>by
           by_cases hjk:j=k
           · subst hjk;exact ⟨by omega,by omega⟩
           · exact HS.out j hj (by omega))
         generalize l[k]=z at hcell h1 h2 d1 d2
         go_wp2
         go_round
         case rel=>exact ⟨k+1,by omega,by go_num,by first | rfl | (congr 1;omega) | (push_cast;congr 1;omega),HS2⟩
         case measure=>have:=HN.out;simp [intOf];omega
   · have hkk:k=l.length:=by omega
     have HB:Hid (inB most l=true):=Lib.hid (inB_all most l (fun i hi=>HS.out i hi (by omega)))
     subst hkk
     go_wp2
     go_ret
     exact ⟨by rw [HB.out];rfl,rfl⟩
def okB (l:List Int) (items:Int):Bool:=decide (1≤items∧items≤8) && decide ((l.length:Int)=items) && inB 1000000 l
set_option maxHeartbeats 2000000 in
theorem vcheck_any (a:Option Addr) (n c:Nat) (l:List Int) (items:Int) (w:World) (hl:IsI w a n c l) (hi:-1000000≤items∧items≤4611686018427387904) :
   Calls Tryz.prog 42 #[.slice a n c,.int .i64 items] w fun e w' => e=.returned (.bool (okB l items))∧Below w.heap.size w w':=by
 have hI:=hl.below ((Below.refl w.heap.size w).alloc (Nat.le_refl _) (.cells #[.int .i64 (items - 1)] 3 (0,0)))
 have h1:=IsI.fresh w [items - 1] #[.int .i64 (items - 1)] 3 (0,0) rfl 1 1 rfl rfl (by simp [maxLen])
 have hb:Below w.heap.size w (w.alloc (.cells #[.int .i64 (items - 1)] 3 (0,0))):=(Below.refl w.heap.size w).alloc (Nat.le_refl _) _
 have hn:=hl.1
 subst hn
 obtain ⟨hi1,hi2⟩:=hi
 clear hl
 by_cases c1:1≤items∧items≤8
 · have e1:Hid (inB 7 [items - 1]=true):=Lib.hid ((inB_iff _ _).2 fun z hz=>by simp at hz;omega)
   by_cases c2:(l.length:Int)=items
   · have d2:((l.length:Int) == items)=true:=by simpa using c2
     have HB:Hid (okB l items=inB 1000000 l):=Lib.hid (by unfold okB;rw [decide_eq_true c1,decide_eq_true c2];rfl)
     have e2:decide ((l.length:Int)=items)=true:=decide_eq_true c2
     clear c1 c2
     go_enter Tryz.func42,Tryz.ntmps42
     go_wp2_with (first
       | (go_at_call 63;((with_reducible refine (within_any _ _ _ _ _ _ h1).mono ?_);rintro e w1 ⟨rfl,rfl⟩;rw [e1.out]))
       | (go_at_call 63;((with_reducible refine (within_any _ _ _ _ _ _ hI).mono ?_);rintro e w1 ⟨rfl,rfl⟩))
       | fail)
     go_ret
     exact ⟨by rw [HB.out];rfl,hb⟩
   · have d2:((l.length:Int) == items)=false:=by simpa using c2
     have HB:Hid (okB l items=false):=Lib.hid (by unfold okB;rw [decide_eq_false c2];simp)
     clear c1 c2
     go_enter Tryz.func42,Tryz.ntmps42
     go_wp2_with (first
       | (go_at_call 63;((with_reducible refine (within_any _ _ _ _ _ _ h1).mono ?_);rintro e w1 ⟨rfl,rfl⟩;rw [e1.out]))
       | fail)
     go_ret
     exact ⟨by rw [HB.out];rfl,hb⟩
 · have e1:Hid (inB 7 [items - 1]=false):=Lib.hid (by
     rw [Bool.eq_false_iff];intro e
     have:=(inB_iff _ _).1 e (items - 1) List.mem_cons_self
     omega)
   have HB:Hid (okB l items=false):=Lib.hid (by unfold okB;rw [decide_eq_false c1];rfl)
   clear c1
   go_enter Tryz.func42,Tryz.ntmps42
   go_wp2_with (first
     | (go_at_call 63;((with_reducible refine (within_any _ _ _ _ _ _ h1).mono ?_);rintro e w1 ⟨rfl,rfl⟩;rw [e1.out]))
     | fail)
   go_ret
   exact ⟨by rw [HB.out];rfl,hb⟩
end Go.Proofs.YtmmmjohoihpbeaaGreat
