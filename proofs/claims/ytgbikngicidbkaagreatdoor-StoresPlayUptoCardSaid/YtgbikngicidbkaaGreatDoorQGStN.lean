/- The package nums: Get where there is too little,PutList,PutBytes;conditions: those typed. -/
import Derived.Test.YtgbikngicidbkaaGreatDoorQGSlotsGetGSlotsLaw2StOldP
import Derived.Test.YtgbikngicidbkaaGreatDoorQSlotsM
import Derived.Test.YtgbikngicidbkaaGreatDoorQNumsGet
import Derived.Test.YtgbikngicidbkaaGreatDoorQGSlotsR
import Derived.Test.YtgbikngicidbkaaGreatDoorQGHeapBFz
import Derived.Test.YtgbikngicidbkaaGreatDoorQUp
import Derived.Test.YtgbikngicidbkaaGreatDoorQFull
namespace Go.Proofs.YtgbikngicidbkaaGreatDoor
open Go.RowKit
set_option linter.unusedVariables false
set_option linter.unusedSimpArgs false
set_option maxHeartbeats 1000000 in
theorem nget_short (a:Option Addr) (c k m:Nat) (l:List UInt8) (w:World) (hl:IsB w a m c l) (hk1:1≤k) (hk8:k≤8) (hkl:l.length<k) :
   Calls Tryz.prog 196 #[.slice a m c,.int .i64 k] w fun e W' => e=.returned (.tuple #[.int .u64 0,.int .i64 5])∧Below w.heap.size w W':=by
 obtain rfl:=hl.1
 have d1:decide ((k:Int)<1)=false:=by rw [decide_eq_false_iff_not];omega
 have d2:decide ((8:Int)<(k:Int))=false:=by rw [decide_eq_false_iff_not];omega
 have d3:decide ((l.length:Int)<(k:Int))=true:=by rw [decide_eq_true_iff];omega
 clear hl
 go_enter Tryz.func196,Tryz.ntmps196
 go_wp2
 refine bodyPost_ret (v:=.tuple #[.int .u64 0,.int .i64 5]) (by simp [results,Tryz.f196,go_sem]) rfl ⟨rfl,?_⟩
 exact ((Below.refl _ _).alloc (Nat.le_refl _) _)
theorem u64n_wrap (z:Int):IntKind.u64.wrap z=((u64n z:Nat):Int):=by
 unfold u64n
 rw [IntKind.wrap_u64];omega
theorem u64n_lt (z:Int):u64n z<18446744073709551616:=by
 unfold u64n
 rw [IntKind.wrap_u64];omega
theorem leB_one (n:Nat):leB n 1=[UInt8.ofNat n]:=by simp [leB]
theorem encI_take_succ (l:List Int) (k:Nat) (h:k<l.length):encI (l.take (k+1))=encI (l.take k) ++ leB (u64n l[k]) 4:=by
 rw [List.take_succ_eq_append_getElem h,encI_snoc]
theorem nput_v (a:Option Addr) (n c:Nat) (l:List UInt8) (v:Nat) (vI:Int) (k m:Nat) (w:World) (hv:vI=(v:Int)) (hl:IsB w a n c l) (hmm:l.length+k=m) (hm:l.length≤100000000) (hvl:v<18446744073709551616) (hk0:0<k) (hk:k≤8) :
   Calls Tryz.prog 84 #[.slice a n c,.int .u64 vI,.int .i64 k] w fun e w' => ∃ a',e=.returned (.slice a' m m)∧Below w.heap.size w w'∧IsB w' a' m m (l ++ leB v k):=by
 subst hv hmm
 obtain rfl:=hl.1
 exact nput_any a _ c l v k w hl (by omega) hvl hk0 hk
theorem encL_cut (l:List Int) (k:Nat) (hk:k=(l.take 255).length):encL l=leB k 1 ++ encI (l.take k):=by
 have e:l.take k=l.take 255:=by
   rw [hk,List.length_take]
   by_cases h:l.length≤255
   · rw [Nat.min_eq_right h,List.take_of_length_le h,List.take_of_length_le (Nat.le_refl _)]
   · rw [Nat.min_eq_left (by omega)]
 unfold encL
 rw [← hk,e]
set_option maxHeartbeats 1000000 in
theorem nputlist_nil (a:Option Addr) (n c:Nat) (b:List UInt8) (la:Option Addr) (lc:Nat) (w:World) (hb:IsB w a n c b) (hm:b.length≤1000000) (hn:la=none→lc=0) (hlc:lc≤9223372036854775807) :
   Calls Tryz.prog 72 #[.slice a n c,.slice la 0 lc] w fun e w' => ∃ a',e=.returned (.slice a' (b.length+1) (b.length+1))∧Below w.heap.size w w'∧IsB w' a' (b.length+1) (b.length+1) (b ++ [0]):=by
 rcases la with _ | x
 · obtain rfl:=hn rfl
   clear hn
   go_enter Tryz.func72,Tryz.ntmps72
   go_wp2_with (first
     | (go_at_call 84;refine (nput_v a n c b 0 _ 1 (b.length+1) w (by first | with_reducible rfl | decide) hb rfl (by omega) (by decide) (by decide) (by decide)).mono ?_;rintro e w1 ⟨a1,rfl,hb1,hi1⟩)
     | fail)
   have H1:=Lib.hid hi1
   clear hi1
   go_loop [20,5] (fun i s=>i=.int .i64 0∧s=.slice a1 (b.length+1) (b.length+1)) (fun _ _=>0)
   case atStart=>exact ⟨rfl,rfl⟩
   case round =>
     obtain ⟨rfl,rfl⟩:=hrel
     go_wp2_with fail
     go_ret
     exact ⟨a1,rfl,hb1,H1.out⟩
 · clear hn
   go_enter Tryz.func72,Tryz.ntmps72
   go_wp2_with (first
     | (go_at_call 84;refine (nput_v a n c b 0 _ 1 (b.length+1) w (by first | with_reducible rfl | decide) hb rfl (by omega) (by decide) (by decide) (by decide)).mono ?_;rintro e w1 ⟨a1,rfl,hb1,hi1⟩)
     | fail)
   have H1:=Lib.hid hi1
   clear hi1
   go_loop [20,5] (fun i s=>i=.int .i64 0∧s=.slice a1 (b.length+1) (b.length+1)) (fun _ _=>0)
   case atStart=>exact ⟨rfl,rfl⟩
   case round =>
     obtain ⟨rfl,rfl⟩:=hrel
     go_wp2_with fail
     go_ret
     exact ⟨a1,rfl,hb1,H1.out⟩
set_option maxRecDepth 100000 in
set_option maxHeartbeats 4000000 in
theorem nputlist_some (a:Option Addr) (n c:Nat) (b:List UInt8) (lb lo lc:Nat) (l:List Int) (w:World) (hb:IsB w a n c b) (hm:b.length≤1000000) (hlb:lb<w.heap.size) (hlc:l.length≤lc) (hlm:lc≤9223372036854775807)
   (hc:∀ i (h:i<l.length),w.cell? ⟨lb,lo+i,none⟩=some (.int .i64 l[i])) :
   Calls Tryz.prog 72 #[.slice a n c,.slice (some ⟨lb,lo,none⟩) l.length lc] w fun e w' => ∃ a' m,e=.returned (.slice a' m m)∧Below w.heap.size w w'∧IsB w' a' m m (b ++ encL l):=by
 obtain rfl:=hb.1
 obtain ⟨k,hk1,hkl,hk255,hkt⟩:∃ k:Nat,(if 255<(l.length:Int) then 255 else (l.length:Int))=(k:Int)∧k≤l.length∧k≤255∧k=(l.take 255).length:=by
   refine ⟨min l.length 255,?_,by omega,by omega,by simp;omega⟩
   split <;> omega
 have HE:=Lib.hid (encL_cut l k hkt)
 have hk3:IntKind.u64.wrap (k:Int)=(k:Int):=by rw [IntKind.wrap_u64];omega
 have HC:=Lib.hid hc
 have hkc:k≤lc:=by omega
 clear hkt hc
 go_enter Tryz.func72,Tryz.ntmps72
 go_wp2_with fail
 refine (nput_v a b.length c b k _ 1 (b.length+1) w (by first | exact hk3 | with_reducible rfl) hb rfl (by omega) (by omega) (by decide) (by decide)).mono ?_
 rintro e w1 ⟨a1,rfl,hb1,hi1⟩
 go_wp2_with fail
 have H1:=Lib.hid hi1
 have B1:=Lib.hid hb1
 clear hi1 hb1 hb hk1 hk3
 obtain ⟨N,hN⟩:∃ N,N=k:=⟨_,rfl⟩
 have HN:=Lib.hid hN
 clear hN
 go_loopw [20,5] (fun i s wr => ∃ j m:Nat,∃ a',j≤k∧i=.int .i64 j∧s=.slice a' m m∧Hid (m=b.length+1+4*j)∧Hid (Below w.heap.size w wr∧IsB wr a' m m (b ++ (leB k 1 ++ encI (l.take j))))) (fun i _ _=>N - (intOf i).toNat)
 case atStart=>exact ⟨0,b.length+1,a1,Nat.zero_le _,rfl,rfl,Lib.hid rfl,Lib.hid ⟨B1.out,by simpa [encI] using H1.out⟩⟩
 case round =>
   clear H1 B1
   obtain ⟨j,m,a',hj,rfl,rfl,HM,HS⟩:=hrel
   by_cases hlt:j<k
   · have hjl:j<l.length:=by omega
     have hcj:wr.cell? ⟨lb,lo+j,none⟩=some (.int .i64 l[j]):=(HS.out.1.cell (p:=⟨lb,lo+j,none⟩) hlb).trans (HC.out j hjl)
     have HT:=Lib.hid (encI_take_succ l j hjl)
     have hz:=u64n_wrap l[j]
     have hzl:=u64n_lt l[j]
     generalize u64n l[j]=z at hz hzl HT
     generalize l[j]=lj at hcj hz
     have HZ:=Lib.hid hz
     clear hz
     go_wp2_with (first
       | (go_at_call 84;refine (nput_v a' m m _ z _ 4 (m+4) wr HZ.out HS.out.2 (by rw [← HS.out.2.1]) (by rw [← HS.out.2.1];have:=HM.out;omega) hzl (by decide) (by decide)).mono ?_;rintro e w2 ⟨a2,rfl,hb2,hi2⟩)
       | fail)
     have H2:Hid (Below w.heap.size w w2∧IsB w2 a2 (m+4) (m+4) (b ++ (leB k 1 ++ encI (l.take (j+1))))):=Lib.hid ⟨HS.out.1.trans (hb2.mono HS.out.1.size),by rw [HT.out];simpa using hi2⟩
     clear hb2 hi2
     go_roundw
     case rel=>exact ⟨j+1,m+4,a2,by omega,by go_num,rfl,Lib.hid (by have:=HM.out;omega),H2⟩
     case measure=>have:=HN.out;simp [intOf];omega
   · have hjk:j=k:=by omega
     subst hjk
     go_wp2_with fail
     go_ret
     exact ⟨a',m,rfl,HS.out.1,by rw [HE.out];exact HS.out.2⟩
theorem nputlist_any (a:Option Addr) (n c:Nat) (b:List UInt8) (la:Option Addr) (ln lc:Nat) (l:List Int) (w:World) (hb:IsB w a n c b) (hm:b.length≤1000000) (hl:IsI w la ln lc l) :
   Calls Tryz.prog 72 #[.slice a n c,.slice la ln lc] w fun e w' => ∃ a' m,e=.returned (.slice a' m m)∧Below w.heap.size w w'∧IsB w' a' m m (b ++ encL l):=by
 obtain ⟨rfl,h1,h2,⟨rfl,h3⟩ | ⟨lb,lo,rfl,hlt,hc⟩⟩:=hl
 · exact (nputlist_nil a n c b la lc w hb hm h3 (by unfold maxLen at h2;omega)).mono fun e w' ⟨a',h,hh⟩ => ⟨a',_,h,hh⟩
 · exact nputlist_some a n c b lb lo lc l w hb hm hlt h1 (by unfold maxLen at h2;omega) hc
theorem IsB.cut {w:World} {a:Option Addr} {n c:Nat} {l:List UInt8} (h:IsB w a n c l) (k:Nat) (hk:k≤l.length):IsB w a k c (l.take k):=by
 obtain ⟨rfl,h1,h2,h3⟩:=h
 have hl:(l.take k).length=k:=by simp;omega
 refine ⟨hl.symm,by omega,h2,?_⟩
 rcases h3 with ⟨h,h'⟩ | ⟨b,off,h,hlt,hcs⟩
 · left;exact ⟨by rw [h];simp,h'⟩
 · exact .inr ⟨b,off,h,hlt,fun i hi=>by rw [hcs i (by omega)];simp⟩
theorem encB_cut (l:List UInt8) (k:Nat) (hk:k=(l.take 65535).length):encB l=leB k 2 ++ l.take k:=by
 have e:l.take k=l.take 65535:=by
   rw [hk,List.length_take]
   by_cases h:l.length≤65535
   · rw [Nat.min_eq_right h,List.take_of_length_le h,List.take_of_length_le (Nat.le_refl _)]
   · rw [Nat.min_eq_left (by omega)]
 unfold encB
 rw [← hk,e]
set_option maxRecDepth 100000 in
set_option maxHeartbeats 2000000 in
theorem nputbytes_any (a:Option Addr) (n c:Nat) (b:List UInt8) (la:Option Addr) (ln lc:Nat) (l:List UInt8) (w:World) (hb:IsB w a n c b) (hm:b.length≤1000000) (hl:IsB w la ln lc l) :
   Calls Tryz.prog 134 #[.slice a n c,.slice la ln lc] w fun e w' => ∃ a' m,e=.returned (.slice a' m m)∧Below w.heap.size w w'∧IsB w' a' m m (b ++ encB l):=by
 obtain rfl:=hb.1
 obtain ⟨k,hk1,hkl,hk255,hkt⟩:∃ k:Nat,(if 65535<(ln:Int) then 65535 else (ln:Int))=(k:Int)∧k≤l.length∧k≤65535∧k=(l.take 65535).length:=by
   have:=hl.1
   refine ⟨min l.length 65535,?_,by omega,by omega,by simp;omega⟩
   rw [this]
   split <;> omega
 have HE:=Lib.hid (encB_cut l k hkt)
 have hk3:IntKind.u64.wrap (k:Int)=(k:Int):=by rw [IntKind.wrap_u64];omega
 have hkc:k≤lc:=by have:=hl.2.1;omega
 have hlnc:ln≤lc:=by have:=hl.2.1;have:=hl.1;omega
 have hlm:lc≤9223372036854775807:=by have:=hl.2.2.1;unfold maxLen at this;omega
 have HL:=Lib.hid (hl.cut k hkl)
 have hnone:=hl.noneCap
 clear hkt hl
 rcases la with _ | x
 · obtain rfl:=hnone rfl
   obtain rfl:k=0:=by omega
   clear hnone hk1 hk3
   have hln:ln=0:=by omega
   subst hln
   go_enter Tryz.func134,Tryz.ntmps134
   go_wp2_with (first
     | (go_at_call 84;refine (nput_v a b.length c b 0 _ 2 (b.length+2) w (by first | with_reducible rfl | decide) hb rfl (by omega) (by omega) (by decide) (by decide)).mono ?_;rintro e w1 ⟨a1,rfl,hb1,hi1⟩)
     | (at_builtin;refine wpList_append_fullB rfl _ _ rfl a1 (b.length+2) _ rfl hi1 none 0 0 [] rfl (IsB.nil _) (by simp [leB_length];omega) ?_;intro a2 c2 w2 hi2 hb2 _)
     | (go_at_call 130;refine (clip_any a2 _ c2 w2 (by have:=hi2.2.1;rw [← hi2.1] at this;exact this) hi2.2.2.1 hi2.noneCap).mono ?_;rintro e w3 ⟨rfl,rfl⟩)
     | fail)
   go_ret
   exact ⟨a2,_,rfl,hb1.trans (hb2.mono hb1.size),by rw [HE.out];simpa using hi2.clip⟩
 · clear hnone
   go_enter Tryz.func134,Tryz.ntmps134
   go_wp2_with (first
     | (go_at_call 84;refine (nput_v a b.length c b k _ 2 (b.length+2) w (by first | exact hk3 | with_reducible rfl) hb rfl (by omega) (by omega) (by decide) (by decide)).mono ?_;rintro e w1 ⟨a1,rfl,hb1,hi1⟩)
     | (at_builtin;refine wpList_append_fullB rfl _ _ rfl a1 (b.length+2) _ rfl hi1 (some x) k lc _ rfl (HL.out.below hb1) (by simp [leB_length];omega) ?_;intro a2 c2 w2 hi2 hb2 _)
     | (go_at_call 130;refine (clip_any a2 _ c2 w2 (by have:=hi2.2.1;rw [← hi2.1] at this;exact this) hi2.2.2.1 hi2.noneCap).mono ?_;rintro e w3 ⟨rfl,rfl⟩)
     | fail)
   go_ret
   exact ⟨a2,_,rfl,hb1.trans (hb2.mono hb1.size),by rw [HE.out];simpa using hi2.clip⟩
/- The package nums: Put,PutList: what they make is new;conditions: those typed. -/
set_option maxHeartbeats 2000000 in
theorem nput_own (a:Option Addr) (n c:Nat) (l:List UInt8) (v:Nat) (k:Nat) (w:World) (hl:IsB w a n c l) (hm:l.length≤140737488351232) (hv:v<18446744073709551616) (hk0:0<k) (hk:k≤8) :
   Calls Tryz.prog 84 #[.slice a n c,.int .u64 v,.int .i64 k] w fun e w' => ∃ a',e=.returned (.slice a' (l.length+k) (l.length+k))∧Below w.heap.size w w'∧IsB w' a' (l.length+k) (l.length+k) (l ++ leB v k)∧∀ b off,a'=some ⟨b,off,none⟩→w.heap.size≤b:=by
 go_enter Tryz.func84,Tryz.ntmps84
 have hmm:(if (k:Int)<8 then (k:Int) else 8)=(k:Int):=by split <;> omega
 have hmx:(if (k:Int)<0 then 0 else (k:Int))=(k:Int):=by rw [if_neg (by omega)]
 go_wp2_with (first
   | (go_at_call 131;refine (sclone_any a n c l _ hl hm).mono ?_;rintro e w1 ⟨a1,c1,rfl,hb1,_,hown1⟩)
   | fail)
 clear hmm hmx
 obtain ⟨N,hN⟩:∃ N,N=k:=⟨_,rfl⟩
 have HN:=Lib.hid hN
 clear hN
 go_loopw [13,7,1] (fun i s x wr => ∃ j:Nat,∃ b' c',j≤k∧i=.int .i64 j∧s=.slice b' (l.length+j) c'∧x=.int .u64 ((v / 256 ^ j:Nat):Int)∧wr.ownsRow w.heap.size 5 1 (.slice b' (l.length+j) c') (l.length+j) (bcells (l ++ leB v j))∧Below w.heap.size w wr) (fun i _ _ _=>N - (intOf i).toNat)
 case atStart=>exact ⟨0,a1,c1,Nat.zero_le _,rfl,rfl,by simp,by simpa [leB] using hown1,hb1⟩
 case round =>
   obtain ⟨j,b',c',hj,rfl,rfl,rfl,hown,hbw⟩:=hrel
   obtain ⟨q,hq⟩:∃ q,q=v / 256 ^ j:=⟨_,rfl⟩
   have hqv:q<18446744073709551616:=by rw [hq];exact Nat.lt_of_le_of_lt (Nat.div_le_self _ _) hv
   have hq1:Hid (q / 256=v / 256 ^ (j+1)):=Lib.hid (by rw [hq,Nat.pow_succ,Nat.div_div_eq_div_mul])
   have hl1:Hid (leB v (j+1)=leB v j ++ [UInt8.ofNat q]):=Lib.hid (by rw [hq];rfl)
   have e8:Hid ((q:Int) % 256=((UInt8.ofNat q).toNat:Int)):=Lib.hid (by simp)
   have hi:=isB_of_owns hown (by rw [List.length_append,leB_length])
   have hi1:l.length+j≤c':=by have:=hi.2.1;rw [List.length_append,leB_length] at this;exact this
   have hi2:=hi.2.2.1
   have hi3:=hi.noneCap
   rw [← hq]
   clear hq
   by_cases hlt:j<k
   · go_wp2_with (at_builtin;rw [e8.out];refine wpList_append_any rowU8 rfl _ _ rfl w.heap.size _ (l.length+j) (bcells (l ++ leB v j)) rfl (hown.alloc _) (some ⟨wr.heap.size,0,none⟩) 1 1 [.int .u8 (UInt8.ofNat q).toNat] rfl rfl (At.one _ _ _) (one_cell _ rfl) (by unfold maxLen;omega) (by omega) (by simp;exact Nat.le_trans hbw.size (Nat.le_succ _)) ?_;intro b2 c2 w2 hown2 hg2 hat2)
     have hB2:=(hbw.alloc hbw.size _).grown hg2 (by simp;exact Nat.le_trans hbw.size (Nat.le_succ _)) (fun i hi=>owns_base hown i hi)
     have ht:bcells (l ++ leB v j) ++ [.int .u8 (UInt8.ofNat q).toNat]=bcells (l ++ leB v (j+1)):=by rw [hl1.out,← List.append_assoc,bcells_append _ [UInt8.ofNat q]];rfl
     rw [ht] at hown2
     have HOW:=Lib.hid hown2
     clear hown2 ht hown hi hi1 hi2 hi3 e8 hl1
     go_wp2_with fail
     go_roundw
     case rel=>exact ⟨j+1,b2,c2,by omega,by go_num,rfl,by rw [← hq1.out];simp,HOW.out,hB2⟩
     case measure=>have:=HN.out;simp [intOf];omega
   · have hjk:j=k:=by omega
     subst hjk
     go_wp2_with (first
       | (go_at_call 130;refine (clip_any b' _ c' wr hi1 hi2 hi3).mono ?_;rintro e w2 ⟨rfl,rfl⟩)
       | fail)
     go_ret
     exact ⟨b',rfl,hbw,hi.clip,fun b off he=>owns_base hown b (by subst he;rfl)⟩
theorem nput_vo (a:Option Addr) (n c:Nat) (l:List UInt8) (v:Nat) (vI:Int) (k m:Nat) (w:World) (hv:vI=(v:Int)) (hl:IsB w a n c l) (hmm:l.length+k=m) (hm:l.length≤100000000) (hvl:v<18446744073709551616) (hk0:0<k) (hk:k≤8) :
   Calls Tryz.prog 84 #[.slice a n c,.int .u64 vI,.int .i64 k] w fun e w' => ∃ a',e=.returned (.slice a' m m)∧Below w.heap.size w w'∧IsB w' a' m m (l ++ leB v k)∧∀ b off,a'=some ⟨b,off,none⟩→w.heap.size≤b:=by
 subst hv hmm
 obtain rfl:=hl.1
 exact nput_own a _ c l v k w hl (by omega) hvl hk0 hk
set_option maxHeartbeats 1000000 in
theorem nputlisto_nil (a:Option Addr) (n c:Nat) (b:List UInt8) (la:Option Addr) (lc:Nat) (w:World) (hb:IsB w a n c b) (hm:b.length≤1000000) (hn:la=none→lc=0) (hlc:lc≤9223372036854775807) :
   Calls Tryz.prog 72 #[.slice a n c,.slice la 0 lc] w fun e w' => ∃ a',e=.returned (.slice a' (b.length+1) (b.length+1))∧Below w.heap.size w w'∧IsB w' a' (b.length+1) (b.length+1) (b ++ [0])∧∀ b off,a'=some ⟨b,off,none⟩→w.heap.size≤b:=by
 rcases la with _ | x
 · obtain rfl:=hn rfl
   clear hn
   go_enter Tryz.func72,Tryz.ntmps72
   go_wp2_with (first
     | (go_at_call 84;refine (nput_vo a n c b 0 _ 1 (b.length+1) w (by first | with_reducible rfl | decide) hb rfl (by omega) (by decide) (by decide) (by decide)).mono ?_;rintro e w1 ⟨a1,rfl,hb1,hi1,ho1⟩)
     | fail)
   have H1:=Lib.hid hi1
   have O1:=Lib.hid ho1
   clear hi1 ho1
   go_loop [20,5] (fun i s=>i=.int .i64 0∧s=.slice a1 (b.length+1) (b.length+1)) (fun _ _=>0)
   case atStart=>exact ⟨rfl,rfl⟩
   case round =>
     obtain ⟨rfl,rfl⟩:=hrel
     go_wp2_with fail
     go_ret
     exact ⟨a1,rfl,hb1,H1.out,O1.out⟩
 · clear hn
   go_enter Tryz.func72,Tryz.ntmps72
   go_wp2_with (first
     | (go_at_call 84;refine (nput_vo a n c b 0 _ 1 (b.length+1) w (by first | with_reducible rfl | decide) hb rfl (by omega) (by decide) (by decide) (by decide)).mono ?_;rintro e w1 ⟨a1,rfl,hb1,hi1,ho1⟩)
     | fail)
   have H1:=Lib.hid hi1
   have O1:=Lib.hid ho1
   clear hi1 ho1
   go_loop [20,5] (fun i s=>i=.int .i64 0∧s=.slice a1 (b.length+1) (b.length+1)) (fun _ _=>0)
   case atStart=>exact ⟨rfl,rfl⟩
   case round =>
     obtain ⟨rfl,rfl⟩:=hrel
     go_wp2_with fail
     go_ret
     exact ⟨a1,rfl,hb1,H1.out,O1.out⟩
set_option maxRecDepth 100000 in
set_option maxHeartbeats 4000000 in
theorem nputlisto_some (a:Option Addr) (n c:Nat) (b:List UInt8) (lb lo lc:Nat) (l:List Int) (w:World) (hb:IsB w a n c b) (hm:b.length≤1000000) (hlb:lb<w.heap.size) (hlc:l.length≤lc) (hlm:lc≤9223372036854775807)
   (hc:∀ i (h:i<l.length),w.cell? ⟨lb,lo+i,none⟩=some (.int .i64 l[i])) :
   Calls Tryz.prog 72 #[.slice a n c,.slice (some ⟨lb,lo,none⟩) l.length lc] w fun e w' => ∃ a' m,e=.returned (.slice a' m m)∧Below w.heap.size w w'∧IsB w' a' m m (b ++ encL l)∧∀ b off,a'=some ⟨b,off,none⟩→w.heap.size≤b:=by
 obtain rfl:=hb.1
 obtain ⟨k,hk1,hkl,hk255,hkt⟩:∃ k:Nat,(if 255<(l.length:Int) then 255 else (l.length:Int))=(k:Int)∧k≤l.length∧k≤255∧k=(l.take 255).length:=by
   refine ⟨min l.length 255,?_,by omega,by omega,by simp;omega⟩
   split <;> omega
 have HE:=Lib.hid (encL_cut l k hkt)
 have hk3:IntKind.u64.wrap (k:Int)=(k:Int):=by rw [IntKind.wrap_u64];omega
 have HC:=Lib.hid hc
 have hkc:k≤lc:=by omega
 clear hkt hc
 go_enter Tryz.func72,Tryz.ntmps72
 go_wp2_with fail
 refine (nput_vo a b.length c b k _ 1 (b.length+1) w (by first | exact hk3 | with_reducible rfl) hb rfl (by omega) (by omega) (by decide) (by decide)).mono ?_
 rintro e w1 ⟨a1,rfl,hb1,hi1,ho1⟩
 go_wp2_with fail
 have H1:=Lib.hid hi1
 have B1:=Lib.hid hb1
 have O1:=Lib.hid ho1
 clear hi1 hb1 hb hk1 hk3 ho1
 obtain ⟨N,hN⟩:∃ N,N=k:=⟨_,rfl⟩
 have HN:=Lib.hid hN
 clear hN
 go_loopw [20,5] (fun i s wr => ∃ j m:Nat,∃ a',j≤k∧i=.int .i64 j∧s=.slice a' m m∧Hid (m=b.length+1+4*j)∧Hid (Below w.heap.size w wr∧IsB wr a' m m (b ++ (leB k 1 ++ encI (l.take j)))∧∀ b off,a'=some ⟨b,off,none⟩→w.heap.size≤b)) (fun i _ _=>N - (intOf i).toNat)
 case atStart=>exact ⟨0,b.length+1,a1,Nat.zero_le _,rfl,rfl,Lib.hid rfl,Lib.hid ⟨B1.out,by simpa [encI] using H1.out,O1.out⟩⟩
 case round =>
   clear H1 B1 O1
   obtain ⟨j,m,a',hj,rfl,rfl,HM,HS⟩:=hrel
   by_cases hlt:j<k
   · have hjl:j<l.length:=by omega
     have hcj:wr.cell? ⟨lb,lo+j,none⟩=some (.int .i64 l[j]):=(HS.out.1.cell (p:=⟨lb,lo+j,none⟩) hlb).trans (HC.out j hjl)
     have HT:=Lib.hid (encI_take_succ l j hjl)
     have hz:=u64n_wrap l[j]
     have hzl:=u64n_lt l[j]
     generalize u64n l[j]=z at hz hzl HT
     generalize l[j]=lj at hcj hz
     have HZ:=Lib.hid hz
     clear hz
     go_wp2_with (first
       | (go_at_call 84;refine (nput_vo a' m m _ z _ 4 (m+4) wr HZ.out HS.out.2.1 (by rw [← HS.out.2.1.1]) (by rw [← HS.out.2.1.1];have:=HM.out;omega) hzl (by decide) (by decide)).mono ?_;rintro e w2 ⟨a2,rfl,hb2,hi2,ho2⟩)
       | fail)
     have H2:Hid (Below w.heap.size w w2∧IsB w2 a2 (m+4) (m+4) (b ++ (leB k 1 ++ encI (l.take (j+1))))∧∀ b off,a2=some ⟨b,off,none⟩→w.heap.size≤b):=Lib.hid ⟨HS.out.1.trans (hb2.mono HS.out.1.size),by rw [HT.out];simpa using hi2,fun b off he=>Nat.le_trans HS.out.1.size (ho2 b off he)⟩
     clear hb2 hi2 ho2
     go_roundw
     case rel=>exact ⟨j+1,m+4,a2,by omega,by go_num,rfl,Lib.hid (by have:=HM.out;omega),H2⟩
     case measure=>have:=HN.out;simp [intOf];omega
   · have hjk:j=k:=by omega
     subst hjk
     go_wp2_with fail
     go_ret
     exact ⟨a',m,rfl,HS.out.1,by rw [HE.out];exact HS.out.2.1,HS.out.2.2⟩
theorem nputlisto_any (a:Option Addr) (n c:Nat) (b:List UInt8) (la:Option Addr) (ln lc:Nat) (l:List Int) (w:World) (hb:IsB w a n c b) (hm:b.length≤1000000) (hl:IsI w la ln lc l) :
   Calls Tryz.prog 72 #[.slice a n c,.slice la ln lc] w fun e w' => ∃ a' m,e=.returned (.slice a' m m)∧Below w.heap.size w w'∧IsB w' a' m m (b ++ encL l)∧∀ b off,a'=some ⟨b,off,none⟩→w.heap.size≤b:=by
 obtain ⟨rfl,h1,h2,⟨rfl,h3⟩ | ⟨lb,lo,rfl,hlt,hc⟩⟩:=hl
 · exact (nputlisto_nil a n c b la lc w hb hm h3 (by unfold maxLen at h2;omega)).mono fun e w' ⟨a',h,hh⟩ => ⟨a',_,h,hh⟩
 · exact nputlisto_some a n c b lb lo lc l w hb hm hlt h1 (by unfold maxLen at h2;omega) hc
end Go.Proofs.YtgbikngicidbkaaGreatDoor
