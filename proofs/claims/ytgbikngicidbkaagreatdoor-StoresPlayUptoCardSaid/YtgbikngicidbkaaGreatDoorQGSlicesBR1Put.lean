/- The library's slices.Clone,Clip,Equal at bytes;conditions: those typed. -/
import Derived.Test.YtgbikngicidbkaaGreatDoorQGHeapBFz
import Derived.Laws.BytesArg
import Derived.Laws.IdiomStrings
import Derived.Test.YtgbikngicidbkaaGreatDoorQAppend
namespace Go.Proofs.YtgbikngicidbkaaGreatDoor
open Go.RowKit
set_option linter.unusedVariables false
set_option maxHeartbeats 400000 in
theorem sclone_any (a:Option Addr) (n c:Nat) (l:List UInt8) (w:World) (hl:IsB w a n c l) (hm:l.length≤140737488351232) :
   Calls Tryz.prog 131 #[.slice a n c] w fun e w' => ∃ a' c',e=.returned (.slice a' l.length c')∧Below w.heap.size w w'∧IsB w' a' l.length c' l∧w'.ownsRow w.heap.size 5 1 (.slice a' l.length c') l.length (bcells l):=by
 have hq:∀ (w:World) (a:Option Addr) (n c:Nat),(binOp .eql 24 (.slice a n c) (.slice none 0 0)).run Tryz.prog w=.ok (.bool a.isNone) w:=fun w a n c=>Lib.run_eql_slice_nil w _ _ a n c 0 0 Tryz.underlying24
 cases a with
 | none =>
   have hnil:l=[]:=by
     obtain ⟨_,_,_,⟨h,_⟩ | ⟨_,_,h,_⟩⟩:=hl
     · exact h
     · cases h
   subst hnil
   clear hl
   go_enter Tryz.func131,Tryz.ntmps131
   go_wp2
   go_ret
   exact ⟨none,0,rfl,Below.refl _ _,IsB.nil _,World.ownsRow_nil _ _ _ _⟩
 | some x =>
   obtain rfl:=hl.1
   have hat:=hl.below ((Below.refl _ w).alloc (Nat.le_refl _) (.cells #[] 5)) |>.at
   clear hl
   go_enter Tryz.func131,Tryz.ntmps131
   go_wp2_with (at_builtin;refine wpList_append_any rowU8 rfl _ _ rfl w.heap.size _ 0 [] rfl (World.ownsRow_made w #[] 0 (Nat.le_refl _) (Nat.zero_le _) rfl) (some x) l.length c (bcells l) rfl (by rw [bcells_length];omega) hat (bcells_one l) (by unfold maxLen;omega) (by omega) (by simp) ?_;intro b2 c2 w2 hown2 hg2 hat2;simp only [Nat.zero_add,List.nil_append] at hown2 hat2)
   go_ret
   refine ⟨b2,c2,rfl,((Below.refl _ w).alloc (Nat.le_refl _) _).grown hg2 (by simp) (fun j hj => ?_),isB_of_owns hown2 rfl,hown2⟩
   have hj':some w.heap.size=some j:=hj
   cases hj'
   exact Nat.le_refl _
set_option maxHeartbeats 400000 in
theorem clip_any (a:Option Addr) (n c:Nat) (w:World) (hn:n≤c) (hc:c≤maxLen) (ha:a=none→c=0) :
   Calls Tryz.prog 130 #[.slice a n c] w fun e w' => e=.returned (.slice a n n)∧w=w':=by
 unfold maxLen at hc
 cases a with
 | none =>
   obtain rfl:=ha rfl
   obtain rfl:n=0:=by omega
   go_enter Tryz.func130,Tryz.ntmps130
   go_wp2
   go_ret
   exact ⟨rfl,rfl⟩
 | some x =>
   clear ha
   go_enter Tryz.func130,Tryz.ntmps130
   go_wp2
   go_ret
   exact ⟨rfl,rfl⟩
set_option maxHeartbeats 1000000 in
theorem sequal_some (a b ao bo c d:Nat) (l m:List UInt8) (w:World) (hlen:l.length≤9223372036854775807) (hlm:l.length=m.length)
   (hl:∀ i (h:i<l.length),w.cell? ⟨a,ao+i,none⟩=some (.int .u8 l[i].toNat)) (hm:∀ i (h:i<m.length),w.cell? ⟨b,bo+i,none⟩=some (.int .u8 m[i].toNat)) :
   Calls Tryz.prog 201 #[.slice (some ⟨a,ao,none⟩) l.length c,.slice (some ⟨b,bo,none⟩) l.length d] w fun e w' => e=.returned (.bool (decide (l=m)))∧∃ j,w'=w.drewN j:=by
 have HLM:=Lib.hid hlm
 clear hlm
 go_enter Tryz.func201,Tryz.ntmps201
 go_wp2
 go_loopw [13] (fun i wr => ∃ k j:Nat,k≤l.length∧i=.int .i64 k∧wr=w.drewN j∧l.take k=m.take k) (fun i _=>l.length - (intOf i).toNat)
 case atStart=>exact ⟨0,0,Nat.zero_le _,rfl,rfl,rfl⟩
 case round =>
   obtain ⟨k,j,hk,rfl,rfl,hs⟩:=hrel
   have HS:=Lib.hid hs
   clear hs
   by_cases hlt:k<l.length
   · have hkm:k<m.length:=by rw [← HLM.out];exact hlt
     have h1:=hl k hlt
     have h2:=hm k hkm
     clear hl hm
     by_cases he:l[k]=m[k]
     · have HE:=Lib.hid he
       have hn:((l[k].toNat:Int) != (m[k].toNat:Int))=false:=by rw [he];simp
       clear he
       go_wp2
       go_quiet (fail)
       go_wp2
       go_roundw
       case rel=>exact ⟨k+1,_,by omega,by go_num,rfl,by rw [List.take_succ_eq_append_getElem hlt,List.take_succ_eq_append_getElem hkm,HS.out,HE.out]⟩
       case measure=>simp [intOf];omega
     · have HE:=Lib.hid he
       have hn:((l[k].toNat:Int) != (m[k].toNat:Int))=true:=by rw [bne_iff_ne];exact fun h=>he (UInt8.toNat_inj.1 (by omega))
       clear he
       go_wp2
       go_quiet (fail)
       go_wp2
       go_ret
       refine ⟨?_,j+nq,by simp⟩
       have hne:decide (l=m)=false:=decide_eq_false (fun h=>HE.out (by subst h;rfl))
       rw [hne];rfl
   · have hkk:k=l.length:=by omega
     subst hkk
     clear hl hm
     have hlm':l=m:=by
       have h:=HS.out
       rw [List.take_length,HLM.out,List.take_length] at h
       exact h
     have HQ:=Lib.hid hlm'
     clear hlm'
     go_wp2
     go_ret
     refine ⟨?_,_,rfl⟩
     rw [decide_eq_true HQ.out];rfl
theorem sequal_apart (a b:Option Addr) (n m c d:Nat) (w:World) (hnm:n≠m) :
   Calls Tryz.prog 201 #[.slice a n c,.slice b m d] w fun e w' => e=.returned (.bool false)∧∃ j,w'=w.drewN j:=by
 have hne:((n:Int) != (m:Int))=true:=by rw [bne_iff_ne];omega
 go_enter Tryz.func201,Tryz.ntmps201
 go_wp2
 go_ret
 exact ⟨rfl,0,rfl⟩
theorem sequal_nil (a b:Option Addr) (c d:Nat) (w:World) :
   Calls Tryz.prog 201 #[.slice a 0 c,.slice b 0 d] w fun e w' => e=.returned (.bool true)∧∃ j,w'=w.drewN j:=by
 go_enter Tryz.func201,Tryz.ntmps201
 go_wp2
 go_loop [13] (fun i=>i=.int .i64 0) (fun _=>0)
 case atStart=>rfl
 case round =>
   obtain rfl:=hrel
   go_wp2
   go_ret
   exact ⟨rfl,0,rfl⟩
theorem sequal_any (a b:Option Addr) (n m c d:Nat) (l k:List UInt8) (w:World) (hl:IsB w a n c l) (hk:IsB w b m d k) :
   Calls Tryz.prog 201 #[.slice a n c,.slice b m d] w fun e w' => e=.returned (.bool (decide (l=k)))∧∃ j,w'=w.drewN j:=by
 by_cases hnm:n=m
 · obtain ⟨rfl,h1,h2,h3⟩:=hl
   obtain ⟨rfl,k1,k2,k3⟩:=hk
   rcases h3 with ⟨rfl,_⟩ | ⟨b1,o1,rfl,hb1,hc1⟩
   · obtain rfl:k=[]:=List.eq_nil_of_length_eq_zero hnm.symm
     exact sequal_nil a b c d w
   · rcases k3 with ⟨rfl,_⟩ | ⟨b2,o2,rfl,hb2,hc2⟩
     · obtain rfl:l=[]:=List.eq_nil_of_length_eq_zero hnm
       exact sequal_nil _ b c d w
     · rw [← hnm]
       exact sequal_some b1 b2 o1 o2 c d l k w (by unfold maxLen at h2;omega) hnm hc1 hc2
 · have hne:decide (l=k)=false:=decide_eq_false (fun h=>hnm (by rw [hl.1,hk.1,h]))
   rw [hne]
   exact sequal_apart a b n m c d w hnm
/- The package nums: Put;conditions: those typed. -/
def leB (v:Nat):Nat→List UInt8
 | 0=>[]
 | j+1=>leB v j ++ [UInt8.ofNat (v / 256 ^ j)]
theorem leB_length (v k:Nat):(leB v k).length=k:=by
 induction k with
 | zero=>rfl
 | succ k ih=>simp [leB,ih]
theorem IsB.noneCap {w:World} {a:Option Addr} {n c:Nat} {l:List UInt8} (h:IsB w a n c l):a=none→c=0:=by
 rcases h.2.2.2 with ⟨_,h⟩ | ⟨b,off,h,_⟩
 · exact h
 · intro e;rw [h] at e;cases e
theorem IsB.clip {w:World} {a:Option Addr} {n c:Nat} {l:List UInt8} (h:IsB w a n c l):IsB w a n n l:=by
 obtain ⟨rfl,h1,h2,h3⟩:=h
 refine ⟨rfl,Nat.le_refl _,Nat.le_trans h1 h2,?_⟩
 rcases h3 with ⟨h,_⟩ | h
 · exact .inl ⟨h,fun _=>by rw [h];rfl⟩
 · exact .inr h
theorem owns_base {w:World} {B e sz n:Nat} {v:Value} {xs:List Value} (h:w.ownsRow B e sz v n xs):∀ j,v.ownBlock=some j→B≤j:=fun j hj=>by
 rcases h.2 with ⟨rfl,_⟩ | ⟨g,cap,cur,rfl,hb,_⟩
 · cases hj
 · cases hj;exact hb
set_option maxHeartbeats 2000000 in
theorem nput_any (a:Option Addr) (n c:Nat) (l:List UInt8) (v:Nat) (k:Nat) (w:World) (hl:IsB w a n c l) (hm:l.length≤140737488351232) (hv:v<18446744073709551616) (hk0:0<k) (hk:k≤8) :
   Calls Tryz.prog 84 #[.slice a n c,.int .u64 v,.int .i64 k] w fun e w' => ∃ a',e=.returned (.slice a' (l.length+k) (l.length+k))∧Below w.heap.size w w'∧IsB w' a' (l.length+k) (l.length+k) (l ++ leB v k):=by
 go_enter Tryz.func84,Tryz.ntmps84
 have hmm:(if (k:Int)<8 then (k:Int) else 8)=(k:Int):=by split <;> omega
 have hmx:(if (k:Int)<0 then 0 else (k:Int))=(k:Int):=by rw [if_neg (by omega)]
 go_wp2_with (first
   | (go_at_call 131;refine (sclone_any a n c l _ hl hm).mono ?_;rintro e w1 ⟨a1,c1,rfl,hb1,_,hown1⟩)
   | fail)
 clear hmm hmx
 obtain ⟨N,hN⟩:∃ N,N=k:=⟨_,rfl⟩
 have HN:=Lib.hid hN
 clear hN
 go_loopw [13,7,1] (fun i s x wr => ∃ j:Nat,∃ b' c',j≤k∧i=.int .i64 j∧s=.slice b' (l.length+j) c'∧x=.int .u64 ((v / 256 ^ j:Nat):Int)∧wr.ownsRow w.heap.size 5 1 (.slice b' (l.length+j) c') (l.length+j) (bcells (l ++ leB v j))∧Below w.heap.size w wr) (fun i _ _ _=>N - (intOf i).toNat)
 case atStart=>exact ⟨0,a1,c1,Nat.zero_le _,rfl,rfl,by simp,by simpa [leB] using hown1,hb1⟩
 case round =>
   obtain ⟨j,b',c',hj,rfl,rfl,rfl,hown,hbw⟩:=hrel
   obtain ⟨q,hq⟩:∃ q,q=v / 256 ^ j:=⟨_,rfl⟩
   have hqv:q<18446744073709551616:=by rw [hq];exact Nat.lt_of_le_of_lt (Nat.div_le_self _ _) hv
   have hq1:Hid (q / 256=v / 256 ^ (j+1)):=Lib.hid (by rw [hq,Nat.pow_succ,Nat.div_div_eq_div_mul])
   have hl1:Hid (leB v (j+1)=leB v j ++ [UInt8.ofNat q]):=Lib.hid (by rw [hq];rfl)
   have e8:Hid ((q:Int) % 256=((UInt8.ofNat q).toNat:Int)):=Lib.hid (by simp)
   have hi:=isB_of_owns hown (by rw [List.length_append,leB_length])
   have hi1:l.length+j≤c':=by have:=hi.2.1;rw [List.length_append,leB_length] at this;exact this
   have hi2:=hi.2.2.1
   have hi3:=hi.noneCap
   rw [← hq]
   clear hq
   by_cases hlt:j<k
   · go_wp2_with (at_builtin;rw [e8.out];refine wpList_append_any rowU8 rfl _ _ rfl w.heap.size _ (l.length+j) (bcells (l ++ leB v j)) rfl (hown.alloc _) (some ⟨wr.heap.size,0,none⟩) 1 1 [.int .u8 (UInt8.ofNat q).toNat] rfl rfl (At.one _ _ _) (one_cell _ rfl) (by unfold maxLen;omega) (by omega) (by simp;exact Nat.le_trans hbw.size (Nat.le_succ _)) ?_;intro b2 c2 w2 hown2 hg2 hat2)
     have hB2:=(hbw.alloc hbw.size _).grown hg2 (by simp;exact Nat.le_trans hbw.size (Nat.le_succ _)) (fun i hi=>owns_base hown i hi)
     have ht:bcells (l ++ leB v j) ++ [.int .u8 (UInt8.ofNat q).toNat]=bcells (l ++ leB v (j+1)):=by rw [hl1.out,← List.append_assoc,bcells_append _ [UInt8.ofNat q]];rfl
     rw [ht] at hown2
     have HOW:=Lib.hid hown2
     clear hown2 ht hown hi hi1 hi2 hi3 e8 hl1
     go_wp2_with fail
     go_roundw
     case rel=>exact ⟨j+1,b2,c2,by omega,by go_num,rfl,by rw [← hq1.out];simp,HOW.out,hB2⟩
     case measure=>have:=HN.out;simp [intOf];omega
   · have hjk:j=k:=by omega
     subst hjk
     go_wp2_with (first
       | (go_at_call 130;refine (clip_any b' _ c' wr hi1 hi2 hi3).mono ?_;rintro e w2 ⟨rfl,rfl⟩)
       | fail)
     go_ret
     refine ⟨b',rfl,hbw,?_⟩
     exact hi.clip
set_option linter.unusedSimpArgs false
set_option maxRecDepth 100000
set_option maxHeartbeats 2000000 in
theorem rput_any (a:Option Addr) (n c:Nat) (l:List UInt8) (v:Nat) (k:Nat) (w:World) (hl:IsB w a n c l) (hm:l.length≤100000) (hv:v<18446744073709551616) (hk:k≤8) :
   Calls Tryz.prog 87 #[.slice a n c,.int .u64 v,.int .i64 k] w fun e w' => ∃ a' c',e=.returned (.slice a' (l.length+k) c')∧Below w.heap.size w w'∧w'.ownsRow w.heap.size 5 1 (.slice a' (l.length+k) c') (l.length+k) (bcells (l ++ leB v k)):=by
 obtain rfl:=hl.1
 have hat:=hl.at
 have hl1:Hid ((bcells l).length=l.length*1):=Lib.hid (by rw [bcells_length];omega)
 clear hl
 go_enter Tryz.func87,Tryz.ntmps87
 go_wp2_with (first
   | (at_builtin;refine wpList_append_any rowU8 rfl (.const (.slice none 0 0)) (.tmp 9) rfl w.heap.size (.slice none 0 0) 0 [] rfl (World.ownsRow_nil _ _ _ _) a l.length c (bcells l) rfl hl1.out hat (bcells_one l) (by unfold maxLen;omega) (by omega) (by simp) ?_;intro b2 c2 w2 hown2 hg2 hat2;simp only [Nat.zero_add,List.nil_append] at hown2 hat2)
   | fail)
 have HO2:=Lib.hid hown2
 have HB2:Hid (Below w.heap.size w w2):=Lib.hid ((Below.refl _ _).grown hg2 (Nat.le_refl _) (by simp [Value.ownBlock]))
 clear hown2 hg2 hat2 hat hl1
 obtain ⟨N,hN⟩:∃ N,N=k:=⟨_,rfl⟩
 have HN:=Lib.hid hN
 clear hN
 go_loopw [8,7] (fun i s wr => ∃ j:Nat,∃ b' c',j≤k∧i=.int .i64 j∧s=.slice b' (l.length+j) c'∧Hid (wr.ownsRow w.heap.size 5 1 (.slice b' (l.length+j) c') (l.length+j) (bcells (l ++ leB v j)))∧Hid (Below w.heap.size w wr)) (fun i _ _=>N - (intOf i).toNat)
 case atStart=>exact ⟨0,b2,c2,Nat.zero_le _,rfl,rfl,Lib.hid (by simpa [leB] using HO2.out),HB2⟩
 case round =>
   clear HO2 HB2
   obtain ⟨j,b',c',hj,rfl,rfl,HO,HB⟩:=hrel
   by_cases hlt:j<k
   · have h8:j<8:=by omega
     have hsz:=HB.out.size
     have hi:=isB_of_owns HO.out (by rw [List.length_append,leB_length])
     have hlc:l.length+j≤c':=by have:=hi.2.1;rw [List.length_append,leB_length] at this;exact this
     have e8:Hid ((v:Int) / 2 ^ (8*j) % 256=((UInt8.ofNat (v / 256 ^ j)).toNat:Int)):=Lib.hid (by
       have h1:(256:Nat) ^ j=2 ^ (8*j):=by rw [Nat.pow_mul]
       rw [h1]
       simp)
     clear hi
     go_wp2_with (at_builtin;rw [e8.out];refine wpList_append_any rowU8 rfl _ _ rfl w.heap.size _ (l.length+j) (bcells (l ++ leB v j)) rfl (HO.out.alloc _) (some ⟨wr.heap.size,0,none⟩) 1 1 [.int .u8 (UInt8.ofNat (v / 256 ^ j)).toNat] rfl rfl (At.one _ _ _) (one_cell _ rfl) (by unfold maxLen;omega) (by omega) (by simp;omega) ?_;intro b2 c2 w2 hown2 hg2 hat2)
     have hB2:=(HB.out.alloc hsz _).grown hg2 (by simp;omega) (fun i hi=>owns_base HO.out i hi)
     have ht:bcells (l ++ leB v j) ++ [.int .u8 (UInt8.ofNat (v / 256 ^ j)).toNat]=bcells (l ++ leB v (j+1)):=by
       rw [show leB v (j+1)=leB v j ++ [UInt8.ofNat (v / 256 ^ j)] from rfl,← List.append_assoc,bcells_append _ [UInt8.ofNat (v / 256 ^ j)]];rfl
     rw [ht] at hown2
     have HOW:=Lib.hid hown2
     have HBW:=Lib.hid hB2
     clear hown2 ht hg2 hat2 e8 hB2 HO HB
     go_wp2_with fail
     go_roundw
     case rel=>exact ⟨j+1,b2,c2,by omega,by go_num,rfl,HOW,HBW⟩
     case measure=>have:=HN.out;simp [intOf];omega
   · have hje:j=k:=by omega
     subst hje
     go_wp2_with fail
     go_ret
     exact ⟨b',c',rfl,HB.out,HO.out⟩
end Go.Proofs.YtgbikngicidbkaaGreatDoor
