/- The package nums: Get where there is too little,PutList,PutBytes;conditions: those typed. -/
import Derived.Test.YtgbikngicidbkaaGreatDoorQGSlotsGetGSlotsLaw2StOldP
import Derived.Test.YtgbikngicidbkaaGreatDoorQSlotsM
import Derived.Test.YtgbikngicidbkaaGreatDoorQNumsGet
import Derived.Test.YtgbikngicidbkaaGreatDoorQGSlotsR
import Derived.Test.YtgbikngicidbkaaGreatDoorQGHeapBFz
import Derived.Test.YtgbikngicidbkaaGreatDoorQUp
import Derived.Test.YtgbikngicidbkaaGreatDoorQFull
import Derived.Test.YtgbikngicidbkaaGreatDoorQR1Get
namespace Go.Proofs.YtgbikngicidbkaaGreatDoor
open Go.RowKit
set_option linter.unusedVariables false
set_option linter.unusedSimpArgs false
set_option maxHeartbeats 1000000 in
theorem nget_short (a:Option Addr) (c k m:Nat) (l:List UInt8) (w:World) (hl:IsB w a m c l) (hk1:1≤k) (hk8:k≤8) (hkl:l.length<k) :
   Calls Tryz.prog 196 #[.slice a m c,.int .i64 k] w fun e W' => e=.returned (.tuple #[.int .u64 0,.int .i64 5])∧Below w.heap.size w W':=by
 obtain rfl:=hl.1
 have d1:decide ((k:Int)<1)=false:=by rw [decide_eq_false_iff_not];omega
 have d2:decide ((8:Int)<(k:Int))=false:=by rw [decide_eq_false_iff_not];omega
 have d3:decide ((l.length:Int)<(k:Int))=true:=by rw [decide_eq_true_iff];omega
 clear hl
 go_enter Tryz.func196,Tryz.ntmps196
 go_wp2
 refine bodyPost_ret (v:=.tuple #[.int .u64 0,.int .i64 5]) (by simp [results,Tryz.f196,go_sem]) rfl ⟨rfl,?_⟩
 exact ((Below.refl _ _).alloc (Nat.le_refl _) _)
theorem u64n_wrap (z:Int):IntKind.u64.wrap z=((u64n z:Nat):Int):=by
 unfold u64n
 rw [IntKind.wrap_u64];omega
theorem u64n_lt (z:Int):u64n z<18446744073709551616:=by
 unfold u64n
 rw [IntKind.wrap_u64];omega
theorem leB_one (n:Nat):leB n 1=[UInt8.ofNat n]:=by simp [leB]
theorem encI_take_succ (l:List Int) (k:Nat) (h:k<l.length):encI (l.take (k+1))=encI (l.take k) ++ leB (u64n l[k]) 4:=by
 rw [List.take_succ_eq_append_getElem h,encI_snoc]
theorem nput_v (a:Option Addr) (n c:Nat) (l:List UInt8) (v:Nat) (vI:Int) (k m:Nat) (w:World) (hv:vI=(v:Int)) (hl:IsB w a n c l) (hmm:l.length+k=m) (hm:l.length≤100000000) (hvl:v<18446744073709551616) (hk0:0<k) (hk:k≤8) :
   Calls Tryz.prog 84 #[.slice a n c,.int .u64 vI,.int .i64 k] w fun e w' => ∃ a',e=.returned (.slice a' m m)∧Below w.heap.size w w'∧IsB w' a' m m (l ++ leB v k):=by
 subst hv hmm
 obtain rfl:=hl.1
 exact nput_any a _ c l v k w hl (by omega) hvl hk0 hk
theorem encL_cut (l:List Int) (k:Nat) (hk:k=(l.take 255).length):encL l=leB k 1 ++ encI (l.take k):=by
 have e:l.take k=l.take 255:=by
   rw [hk,List.length_take]
   by_cases h:l.length≤255
   · rw [Nat.min_eq_right h,List.take_of_length_le h,List.take_of_length_le (Nat.le_refl _)]
   · rw [Nat.min_eq_left (by omega)]
 unfold encL
 rw [← hk,e]
set_option maxHeartbeats 1000000 in
theorem nputlist_nil (a:Option Addr) (n c:Nat) (b:List UInt8) (la:Option Addr) (lc:Nat) (w:World) (hb:IsB w a n c b) (hm:b.length≤1000000) (hn:la=none→lc=0) (hlc:lc≤9223372036854775807) :
   Calls Tryz.prog 72 #[.slice a n c,.slice la 0 lc] w fun e w' => ∃ a',e=.returned (.slice a' (b.length+1) (b.length+1))∧Below w.heap.size w w'∧IsB w' a' (b.length+1) (b.length+1) (b ++ [0]):=by
 rcases la with _ | x
 · obtain rfl:=hn rfl
   clear hn
   go_enter Tryz.func72,Tryz.ntmps72
   go_wp2_with (first
     | (go_at_call 84;refine (nput_v a n c b 0 _ 1 (b.length+1) w (by first | with_reducible rfl | decide) hb rfl (by omega) (by decide) (by decide) (by decide)).mono ?_;rintro e w1 ⟨a1,rfl,hb1,hi1⟩)
     | fail)
   have H1:=Lib.hid hi1
   clear hi1
   go_loop [20,5] (fun i s=>i=.int .i64 0∧s=.slice a1 (b.length+1) (b.length+1)) (fun _ _=>0)
   case atStart=>exact ⟨rfl,rfl⟩
   case round =>
     obtain ⟨rfl,rfl⟩:=hrel
     go_wp2_with fail
     go_ret
     exact ⟨a1,rfl,hb1,H1.out⟩
 · clear hn
   go_enter Tryz.func72,Tryz.ntmps72
   go_wp2_with (first
     | (go_at_call 84;refine (nput_v a n c b 0 _ 1 (b.length+1) w (by first | with_reducible rfl | decide) hb rfl (by omega) (by decide) (by decide) (by decide)).mono ?_;rintro e w1 ⟨a1,rfl,hb1,hi1⟩)
     | fail)
   have H1:=Lib.hid hi1
   clear hi1
   go_loop [20,5] (fun i s=>i=.int .i64 0∧s=.slice a1 (b.length+1) (b.length+1)) (fun _ _=>0)
   case atStart=>exact ⟨rfl,rfl⟩
   case round =>
     obtain ⟨rfl,rfl⟩:=hrel
     go_wp2_with fail
     go_ret
     exact ⟨a1,rfl,hb1,H1.out⟩
set_option maxRecDepth 100000 in
set_option maxHeartbeats 4000000 in
theorem nputlist_some (a:Option Addr) (n c:Nat) (b:List UInt8) (lb lo lc:Nat) (l:List Int) (w:World) (hb:IsB w a n c b) (hm:b.length≤1000000) (hlb:lb<w.heap.size) (hlc:l.length≤lc) (hlm:lc≤9223372036854775807)
   (hc:∀ i (h:i<l.length),w.cell? ⟨lb,lo+i,none⟩=some (.int .i64 l[i])) :
   Calls Tryz.prog 72 #[.slice a n c,.slice (some ⟨lb,lo,none⟩) l.length lc] w fun e w' => ∃ a' m,e=.returned (.slice a' m m)∧Below w.heap.size w w'∧IsB w' a' m m (b ++ encL l):=by
 obtain rfl:=hb.1
 obtain ⟨k,hk1,hkl,hk255,hkt⟩:∃ k:Nat,(if 255<(l.length:Int) then 255 else (l.length:Int))=(k:Int)∧k≤l.length∧k≤255∧k=(l.take 255).length:=by
   refine ⟨min l.length 255,?_,by omega,by omega,by simp;omega⟩
   split <;> omega
 have HE:=Lib.hid (encL_cut l k hkt)
 have hk3:IntKind.u64.wrap (k:Int)=(k:Int):=by rw [IntKind.wrap_u64];omega
 have HC:=Lib.hid hc
 have hkc:k≤lc:=by omega
 clear hkt hc
 go_enter Tryz.func72,Tryz.ntmps72
 go_wp2_with fail
 refine (nput_v a b.length c b k _ 1 (b.length+1) w (by first | exact hk3 | with_reducible rfl) hb rfl (by omega) (by omega) (by decide) (by decide)).mono ?_
 rintro e w1 ⟨a1,rfl,hb1,hi1⟩
 go_wp2_with fail
 have H1:=Lib.hid hi1
 have B1:=Lib.hid hb1
 clear hi1 hb1 hb hk1 hk3
 obtain ⟨N,hN⟩:∃ N,N=k:=⟨_,rfl⟩
 have HN:=Lib.hid hN
 clear hN
 go_loopw [20,5] (fun i s wr => ∃ j m:Nat,∃ a',j≤k∧i=.int .i64 j∧s=.slice a' m m∧Hid (m=b.length+1+4*j)∧Hid (Below w.heap.size w wr∧IsB wr a' m m (b ++ (leB k 1 ++ encI (l.take j))))) (fun i _ _=>N - (intOf i).toNat)
 case atStart=>exact ⟨0,b.length+1,a1,Nat.zero_le _,rfl,rfl,Lib.hid rfl,Lib.hid ⟨B1.out,by simpa [encI] using H1.out⟩⟩
 case round =>
   clear H1 B1
   obtain ⟨j,m,a',hj,rfl,rfl,HM,HS⟩:=hrel
   by_cases hlt:j<k
   · have hjl:j<l.length:=by omega
     have hcj:wr.cell? ⟨lb,lo+j,none⟩=some (.int .i64 l[j]):=(HS.out.1.cell (p:=⟨lb,lo+j,none⟩) hlb).trans (HC.out j hjl)
     have HT:=Lib.hid (encI_take_succ l j hjl)
     have hz:=u64n_wrap l[j]
     have hzl:=u64n_lt l[j]
     generalize u64n l[j]=z at hz hzl HT
     generalize l[j]=lj at hcj hz
     have HZ:=Lib.hid hz
     clear hz
     go_wp2_with (first
       | (go_at_call 84;refine (nput_v a' m m _ z _ 4 (m+4) wr HZ.out HS.out.2 (by rw [← HS.out.2.1]) (by rw [← HS.out.2.1];have:=HM.out;omega) hzl (by decide) (by decide)).mono ?_;rintro e w2 ⟨a2,rfl,hb2,hi2⟩)
       | fail)
     have H2:Hid (Below w.heap.size w w2∧IsB w2 a2 (m+4) (m+4) (b ++ (leB k 1 ++ encI (l.take (j+1))))):=Lib.hid ⟨HS.out.1.trans (hb2.mono HS.out.1.size),by rw [HT.out];simpa using hi2⟩
     clear hb2 hi2
     go_roundw
     case rel=>exact ⟨j+1,m+4,a2,by omega,by go_num,rfl,Lib.hid (by have:=HM.out;omega),H2⟩
     case measure=>have:=HN.out;simp [intOf];omega
   · have hjk:j=k:=by omega
     subst hjk
     go_wp2_with fail
     go_ret
     exact ⟨a',m,rfl,HS.out.1,by rw [HE.out];exact HS.out.2⟩
theorem nputlist_any (a:Option Addr) (n c:Nat) (b:List UInt8) (la:Option Addr) (ln lc:Nat) (l:List Int) (w:World) (hb:IsB w a n c b) (hm:b.length≤1000000) (hl:IsI w la ln lc l) :
   Calls Tryz.prog 72 #[.slice a n c,.slice la ln lc] w fun e w' => ∃ a' m,e=.returned (.slice a' m m)∧Below w.heap.size w w'∧IsB w' a' m m (b ++ encL l):=by
 obtain ⟨rfl,h1,h2,⟨rfl,h3⟩ | ⟨lb,lo,rfl,hlt,hc⟩⟩:=hl
 · exact (nputlist_nil a n c b la lc w hb hm h3 (by unfold maxLen at h2;omega)).mono fun e w' ⟨a',h,hh⟩ => ⟨a',_,h,hh⟩
 · exact nputlist_some a n c b lb lo lc l w hb hm hlt h1 (by unfold maxLen at h2;omega) hc
theorem IsB.cut {w:World} {a:Option Addr} {n c:Nat} {l:List UInt8} (h:IsB w a n c l) (k:Nat) (hk:k≤l.length):IsB w a k c (l.take k):=by
 obtain ⟨rfl,h1,h2,h3⟩:=h
 have hl:(l.take k).length=k:=by simp;omega
 refine ⟨hl.symm,by omega,h2,?_⟩
 rcases h3 with ⟨h,h'⟩ | ⟨b,off,h,hlt,hcs⟩
 · left;exact ⟨by rw [h];simp,h'⟩
 · exact .inr ⟨b,off,h,hlt,fun i hi=>by rw [hcs i (by omega)];simp⟩
theorem encB_cut (l:List UInt8) (k:Nat) (hk:k=(l.take 65535).length):encB l=leB k 2 ++ l.take k:=by
 have e:l.take k=l.take 65535:=by
   rw [hk,List.length_take]
   by_cases h:l.length≤65535
   · rw [Nat.min_eq_right h,List.take_of_length_le h,List.take_of_length_le (Nat.le_refl _)]
   · rw [Nat.min_eq_left (by omega)]
 unfold encB
 rw [← hk,e]
set_option maxRecDepth 100000 in
set_option maxHeartbeats 2000000 in
theorem nputbytes_any (a:Option Addr) (n c:Nat) (b:List UInt8) (la:Option Addr) (ln lc:Nat) (l:List UInt8) (w:World) (hb:IsB w a n c b) (hm:b.length≤1000000) (hl:IsB w la ln lc l) :
   Calls Tryz.prog 134 #[.slice a n c,.slice la ln lc] w fun e w' => ∃ a' m,e=.returned (.slice a' m m)∧Below w.heap.size w w'∧IsB w' a' m m (b ++ encB l):=by
 obtain rfl:=hb.1
 obtain ⟨k,hk1,hkl,hk255,hkt⟩:∃ k:Nat,(if 65535<(ln:Int) then 65535 else (ln:Int))=(k:Int)∧k≤l.length∧k≤65535∧k=(l.take 65535).length:=by
   have:=hl.1
   refine ⟨min l.length 65535,?_,by omega,by omega,by simp;omega⟩
   rw [this]
   split <;> omega
 have HE:=Lib.hid (encB_cut l k hkt)
 have hk3:IntKind.u64.wrap (k:Int)=(k:Int):=by rw [IntKind.wrap_u64];omega
 have hkc:k≤lc:=by have:=hl.2.1;omega
 have hlnc:ln≤lc:=by have:=hl.2.1;have:=hl.1;omega
 have hlm:lc≤9223372036854775807:=by have:=hl.2.2.1;unfold maxLen at this;omega
 have HL:=Lib.hid (hl.cut k hkl)
 have hnone:=hl.noneCap
 clear hkt hl
 rcases la with _ | x
 · obtain rfl:=hnone rfl
   obtain rfl:k=0:=by omega
   clear hnone hk1 hk3
   have hln:ln=0:=by omega
   subst hln
   go_enter Tryz.func134,Tryz.ntmps134
   go_wp2_with (first
     | (go_at_call 84;refine (nput_v a b.length c b 0 _ 2 (b.length+2) w (by first | with_reducible rfl | decide) hb rfl (by omega) (by omega) (by decide) (by decide)).mono ?_;rintro e w1 ⟨a1,rfl,hb1,hi1⟩)
     | (at_builtin;refine wpList_append_fullB rfl _ _ rfl a1 (b.length+2) _ rfl hi1 none 0 0 [] rfl (IsB.nil _) (by simp [leB_length];omega) ?_;intro a2 c2 w2 hi2 hb2 _)
     | (go_at_call 130;refine (clip_any a2 _ c2 w2 (by have:=hi2.2.1;rw [← hi2.1] at this;exact this) hi2.2.2.1 hi2.noneCap).mono ?_;rintro e w3 ⟨rfl,rfl⟩)
     | fail)
   go_ret
   exact ⟨a2,_,rfl,hb1.trans (hb2.mono hb1.size),by rw [HE.out];simpa using hi2.clip⟩
 · clear hnone
   go_enter Tryz.func134,Tryz.ntmps134
   go_wp2_with (first
     | (go_at_call 84;refine (nput_v a b.length c b k _ 2 (b.length+2) w (by first | exact hk3 | with_reducible rfl) hb rfl (by omega) (by omega) (by decide) (by decide)).mono ?_;rintro e w1 ⟨a1,rfl,hb1,hi1⟩)
     | (at_builtin;refine wpList_append_fullB rfl _ _ rfl a1 (b.length+2) _ rfl hi1 (some x) k lc _ rfl (HL.out.below hb1) (by simp [leB_length];omega) ?_;intro a2 c2 w2 hi2 hb2 _)
     | (go_at_call 130;refine (clip_any a2 _ c2 w2 (by have:=hi2.2.1;rw [← hi2.1] at this;exact this) hi2.2.2.1 hi2.noneCap).mono ?_;rintro e w3 ⟨rfl,rfl⟩)
     | fail)
   go_ret
   exact ⟨a2,_,rfl,hb1.trans (hb2.mono hb1.size),by rw [HE.out];simpa using hi2.clip⟩
/- The package nums: Put,PutList: what they make is new;conditions: those typed. -/
set_option maxHeartbeats 2000000 in
theorem nput_own (a:Option Addr) (n c:Nat) (l:List UInt8) (v:Nat) (k:Nat) (w:World) (hl:IsB w a n c l) (hm:l.length≤140737488351232) (hv:v<18446744073709551616) (hk0:0<k) (hk:k≤8) :
   Calls Tryz.prog 84 #[.slice a n c,.int .u64 v,.int .i64 k] w fun e w' => ∃ a',e=.returned (.slice a' (l.length+k) (l.length+k))∧Below w.heap.size w w'∧IsB w' a' (l.length+k) (l.length+k) (l ++ leB v k)∧∀ b off,a'=some ⟨b,off,none⟩→w.heap.size≤b:=by
 go_enter Tryz.func84,Tryz.ntmps84
 have hmm:(if (k:Int)<8 then (k:Int) else 8)=(k:Int):=by split <;> omega
 have hmx:(if (k:Int)<0 then 0 else (k:Int))=(k:Int):=by rw [if_neg (by omega)]
 go_wp2_with (first
   | (go_at_call 131;refine (sclone_any a n c l _ hl hm).mono ?_;rintro e w1 ⟨a1,c1,rfl,hb1,_,hown1⟩)
   | fail)
 clear hmm hmx
 obtain ⟨N,hN⟩:∃ N,N=k:=⟨_,rfl⟩
 have HN:=Lib.hid hN
 clear hN
 go_loopw [13,7,1] (fun i s x wr => ∃ j:Nat,∃ b' c',j≤k∧i=.int .i64 j∧s=.slice b' (l.length+j) c'∧x=.int .u64 ((v / 256 ^ j:Nat):Int)∧wr.ownsRow w.heap.size 5 1 (.slice b' (l.length+j) c') (l.length+j) (bcells (l ++ leB v j))∧Below w.heap.size w wr) (fun i _ _ _=>N - (intOf i).toNat)
 case atStart=>exact ⟨0,a1,c1,Nat.zero_le _,rfl,rfl,by simp,by simpa [leB] using hown1,hb1⟩
 case round =>
   obtain ⟨j,b',c',hj,rfl,rfl,rfl,hown,hbw⟩:=hrel
   obtain ⟨q,hq⟩:∃ q,q=v / 256 ^ j:=⟨_,rfl⟩
   have hqv:q<18446744073709551616:=by rw [hq];exact Nat.lt_of_le_of_lt (Nat.div_le_self _ _) hv
   have hq1:Hid (q / 256=v / 256 ^ (j+1)):=Lib.hid (by rw [hq,Nat.pow_succ,Nat.div_div_eq_div_mul])
   have hl1:Hid (leB v (j+1)=leB v j ++ [UInt8.ofNat q]):=Lib.hid (by rw [hq];rfl)
   have e8:Hid ((q:Int) % 256=((UInt8.ofNat q).toNat:Int)):=Lib.hid (by simp)
   have hi:=isB_of_owns hown (by rw [List.length_append,leB_length])
   have hi1:l.length+j≤c':=by have:=hi.2.1;rw [List.length_append,leB_length] at this;exact this
   have hi2:=hi.2.2.1
   have hi3:=hi.noneCap
   rw [← hq]
   clear hq
   by_cases hlt:j<k
   · go_wp2_with (at_builtin;rw [e8.out];refine wpList_append_any rowU8 rfl _ _ rfl w.heap.size _ (l.length+j) (bcells (l ++ leB v j)) rfl (hown.alloc _) (some ⟨wr.heap.size,0,none⟩) 1 1 [.int .u8 (UInt8.ofNat q).toNat] rfl rfl (At.one _ _ _) (one_cell _ rfl) (by unfold maxLen;omega) (by omega) (by simp;exact Nat.le_trans hbw.size (Nat.le_succ _)) ?_;intro b2 c2 w2 hown2 hg2 hat2)
     have hB2:=(hbw.alloc hbw.size _).grown hg2 (by simp;exact Nat.le_trans hbw.size (Nat.le_succ _)) (fun i hi=>owns_base hown i hi)
     have ht:bcells (l ++ leB v j) ++ [.int .u8 (UInt8.ofNat q).toNat]=bcells (l ++ leB v (j+1)):=by rw [hl1.out,← List.append_assoc,bcells_append _ [UInt8.ofNat q]];rfl
     rw [ht] at hown2
     have HOW:=Lib.hid hown2
     clear hown2 ht hown hi hi1 hi2 hi3 e8 hl1
     go_wp2_with fail
     go_roundw
     case rel=>exact ⟨j+1,b2,c2,by omega,by go_num,rfl,by rw [← hq1.out];simp,HOW.out,hB2⟩
     case measure=>have:=HN.out;simp [intOf];omega
   · have hjk:j=k:=by omega
     subst hjk
     go_wp2_with (first
       | (go_at_call 130;refine (clip_any b' _ c' wr hi1 hi2 hi3).mono ?_;rintro e w2 ⟨rfl,rfl⟩)
       | fail)
     go_ret
     exact ⟨b',rfl,hbw,hi.clip,fun b off he=>owns_base hown b (by subst he;rfl)⟩
theorem nput_vo (a:Option Addr) (n c:Nat) (l:List UInt8) (v:Nat) (vI:Int) (k m:Nat) (w:World) (hv:vI=(v:Int)) (hl:IsB w a n c l) (hmm:l.length+k=m) (hm:l.length≤100000000) (hvl:v<18446744073709551616) (hk0:0<k) (hk:k≤8) :
   Calls Tryz.prog 84 #[.slice a n c,.int .u64 vI,.int .i64 k] w fun e w' => ∃ a',e=.returned (.slice a' m m)∧Below w.heap.size w w'∧IsB w' a' m m (l ++ leB v k)∧∀ b off,a'=some ⟨b,off,none⟩→w.heap.size≤b:=by
 subst hv hmm
 obtain rfl:=hl.1
 exact nput_own a _ c l v k w hl (by omega) hvl hk0 hk
set_option maxHeartbeats 1000000 in
theorem nputlisto_nil (a:Option Addr) (n c:Nat) (b:List UInt8) (la:Option Addr) (lc:Nat) (w:World) (hb:IsB w a n c b) (hm:b.length≤1000000) (hn:la=none→lc=0) (hlc:lc≤9223372036854775807) :
   Calls Tryz.prog 72 #[.slice a n c,.slice la 0 lc] w fun e w' => ∃ a',e=.returned (.slice a' (b.length+1) (b.length+1))∧Below w.heap.size w w'∧IsB w' a' (b.length+1) (b.length+1) (b ++ [0])∧∀ b off,a'=some ⟨b,off,none⟩→w.heap.size≤b:=by
 rcases la with _ | x
 · obtain rfl:=hn rfl
   clear hn
   go_enter Tryz.func72,Tryz.ntmps72
   go_wp2_with (first
     | (go_at_call 84;refine (nput_vo a n c b 0 _ 1 (b.length+1) w (by first | with_reducible rfl | decide) hb rfl (by omega) (by decide) (by decide) (by decide)).mono ?_;rintro e w1 ⟨a1,rfl,hb1,hi1,ho1⟩)
     | fail)
   have H1:=Lib.hid hi1
   have O1:=Lib.hid ho1
   clear hi1 ho1
   go_loop [20,5] (fun i s=>i=.int .i64 0∧s=.slice a1 (b.length+1) (b.length+1)) (fun _ _=>0)
   case atStart=>exact ⟨rfl,rfl⟩
   case round =>
     obtain ⟨rfl,rfl⟩:=hrel
     go_wp2_with fail
     go_ret
     exact ⟨a1,rfl,hb1,H1.out,O1.out⟩
 · clear hn
   go_enter Tryz.func72,Tryz.ntmps72
   go_wp2_with (first
     | (go_at_call 84;refine (nput_vo a n c b 0 _ 1 (b.length+1) w (by first | with_reducible rfl | decide) hb rfl (by omega) (by decide) (by decide) (by decide)).mono ?_;rintro e w1 ⟨a1,rfl,hb1,hi1,ho1⟩)
     | fail)
   have H1:=Lib.hid hi1
   have O1:=Lib.hid ho1
   clear hi1 ho1
   go_loop [20,5] (fun i s=>i=.int .i64 0∧s=.slice a1 (b.length+1) (b.length+1)) (fun _ _=>0)
   case atStart=>exact ⟨rfl,rfl⟩
   case round =>
     obtain ⟨rfl,rfl⟩:=hrel
     go_wp2_with fail
     go_ret
     exact ⟨a1,rfl,hb1,H1.out,O1.out⟩
set_option maxRecDepth 100000 in
set_option maxHeartbeats 4000000 in
theorem nputlisto_some (a:Option Addr) (n c:Nat) (b:List UInt8) (lb lo lc:Nat) (l:List Int) (w:World) (hb:IsB w a n c b) (hm:b.length≤1000000) (hlb:lb<w.heap.size) (hlc:l.length≤lc) (hlm:lc≤9223372036854775807)
   (hc:∀ i (h:i<l.length),w.cell? ⟨lb,lo+i,none⟩=some (.int .i64 l[i])) :
   Calls Tryz.prog 72 #[.slice a n c,.slice (some ⟨lb,lo,none⟩) l.length lc] w fun e w' => ∃ a' m,e=.returned (.slice a' m m)∧Below w.heap.size w w'∧IsB w' a' m m (b ++ encL l)∧∀ b off,a'=some ⟨b,off,none⟩→w.heap.size≤b:=by
 obtain rfl:=hb.1
 obtain ⟨k,hk1,hkl,hk255,hkt⟩:∃ k:Nat,(if 255<(l.length:Int) then 255 else (l.length:Int))=(k:Int)∧k≤l.length∧k≤255∧k=(l.take 255).length:=by
   refine ⟨min l.length 255,?_,by omega,by omega,by simp;omega⟩
   split <;> omega
 have HE:=Lib.hid (encL_cut l k hkt)
 have hk3:IntKind.u64.wrap (k:Int)=(k:Int):=by rw [IntKind.wrap_u64];omega
 have HC:=Lib.hid hc
 have hkc:k≤lc:=by omega
 clear hkt hc
 go_enter Tryz.func72,Tryz.ntmps72
 go_wp2_with fail
 refine (nput_vo a b.length c b k _ 1 (b.length+1) w (by first | exact hk3 | with_reducible rfl) hb rfl (by omega) (by omega) (by decide) (by decide)).mono ?_
 rintro e w1 ⟨a1,rfl,hb1,hi1,ho1⟩
 go_wp2_with fail
 have H1:=Lib.hid hi1
 have B1:=Lib.hid hb1
 have O1:=Lib.hid ho1
 clear hi1 hb1 hb hk1 hk3 ho1
 obtain ⟨N,hN⟩:∃ N,N=k:=⟨_,rfl⟩
 have HN:=Lib.hid hN
 clear hN
 go_loopw [20,5] (fun i s wr => ∃ j m:Nat,∃ a',j≤k∧i=.int .i64 j∧s=.slice a' m m∧Hid (m=b.length+1+4*j)∧Hid (Below w.heap.size w wr∧IsB wr a' m m (b ++ (leB k 1 ++ encI (l.take j)))∧∀ b off,a'=some ⟨b,off,none⟩→w.heap.size≤b)) (fun i _ _=>N - (intOf i).toNat)
 case atStart=>exact ⟨0,b.length+1,a1,Nat.zero_le _,rfl,rfl,Lib.hid rfl,Lib.hid ⟨B1.out,by simpa [encI] using H1.out,O1.out⟩⟩
 case round =>
   clear H1 B1 O1
   obtain ⟨j,m,a',hj,rfl,rfl,HM,HS⟩:=hrel
   by_cases hlt:j<k
   · have hjl:j<l.length:=by omega
     have hcj:wr.cell? ⟨lb,lo+j,none⟩=some (.int .i64 l[j]):=(HS.out.1.cell (p:=⟨lb,lo+j,none⟩) hlb).trans (HC.out j hjl)
     have HT:=Lib.hid (encI_take_succ l j hjl)
     have hz:=u64n_wrap l[j]
     have hzl:=u64n_lt l[j]
     generalize u64n l[j]=z at hz hzl HT
     generalize l[j]=lj at hcj hz
     have HZ:=Lib.hid hz
     clear hz
     go_wp2_with (first
       | (go_at_call 84;refine (nput_vo a' m m _ z _ 4 (m+4) wr HZ.out HS.out.2.1 (by rw [← HS.out.2.1.1]) (by rw [← HS.out.2.1.1];have:=HM.out;omega) hzl (by decide) (by decide)).mono ?_;rintro e w2 ⟨a2,rfl,hb2,hi2,ho2⟩)
       | fail)
     have H2:Hid (Below w.heap.size w w2∧IsB w2 a2 (m+4) (m+4) (b ++ (leB k 1 ++ encI (l.take (j+1))))∧∀ b off,a2=some ⟨b,off,none⟩→w.heap.size≤b):=Lib.hid ⟨HS.out.1.trans (hb2.mono HS.out.1.size),by rw [HT.out];simpa using hi2,fun b off he=>Nat.le_trans HS.out.1.size (ho2 b off he)⟩
     clear hb2 hi2 ho2
     go_roundw
     case rel=>exact ⟨j+1,m+4,a2,by omega,by go_num,rfl,Lib.hid (by have:=HM.out;omega),H2⟩
     case measure=>have:=HN.out;simp [intOf];omega
   · have hjk:j=k:=by omega
     subst hjk
     go_wp2_with fail
     go_ret
     exact ⟨a',m,rfl,HS.out.1,by rw [HE.out];exact HS.out.2.1,HS.out.2.2⟩
theorem nputlisto_any (a:Option Addr) (n c:Nat) (b:List UInt8) (la:Option Addr) (ln lc:Nat) (l:List Int) (w:World) (hb:IsB w a n c b) (hm:b.length≤1000000) (hl:IsI w la ln lc l) :
   Calls Tryz.prog 72 #[.slice a n c,.slice la ln lc] w fun e w' => ∃ a' m,e=.returned (.slice a' m m)∧Below w.heap.size w w'∧IsB w' a' m m (b ++ encL l)∧∀ b off,a'=some ⟨b,off,none⟩→w.heap.size≤b:=by
 obtain ⟨rfl,h1,h2,⟨rfl,h3⟩ | ⟨lb,lo,rfl,hlt,hc⟩⟩:=hl
 · exact (nputlisto_nil a n c b la lc w hb hm h3 (by unfold maxLen at h2;omega)).mono fun e w' ⟨a',h,hh⟩ => ⟨a',_,h,hh⟩
 · exact nputlisto_some a n c b lb lo lc l w hb hm hlt h1 (by unfold maxLen at h2;omega) hc
section
def NwB (B:Nat) (w:World) (a:Option Addr) (l:List UInt8):Prop:=∃ c,w.ownsRow B 5 1 (.slice a l.length c) l.length (bcells l)
def NwI (B:Nat) (w:World) (a:Option Addr) (l:List Int):Prop:=∃ c,w.ownsRow B 3 1 (.slice a l.length c) l.length (icells l)
theorem owns_low {w:World} {B B' e sz n:Nat} {v:Value} {xs:List Value} (h:w.ownsRow B e sz v n xs) (hb:B'≤B):w.ownsRow B' e sz v n xs:=by
 refine ⟨h.1,?_⟩
 rcases h.2 with h0 | ⟨g,cap,cur,hv,hg,h3⟩
 · exact .inl h0
 · exact .inr ⟨g,cap,cur,hv,Nat.le_trans hb hg,h3⟩
theorem NwB.low {B B':Nat} {w:World} {a:Option Addr} {l:List UInt8} (h:NwB B w a l) (hb:B'≤B):NwB B' w a l:=by obtain ⟨c,h⟩:=h;exact ⟨c,owns_low h hb⟩
theorem NwI.low {B B':Nat} {w:World} {a:Option Addr} {l:List Int} (h:NwI B w a l) (hb:B'≤B):NwI B' w a l:=by obtain ⟨c,h⟩:=h;exact ⟨c,owns_low h hb⟩
theorem NwB.below {B:Nat} {w w':World} {a:Option Addr} {l:List UInt8} (h:NwB B w a l) (hb:Below w.heap.size w w'):NwB B w' a l:=by obtain ⟨c,h⟩:=h;exact ⟨c,owns_below h hb⟩
theorem NwI.below {B:Nat} {w w':World} {a:Option Addr} {l:List Int} (h:NwI B w a l) (hb:Below w.heap.size w w'):NwI B w' a l:=by obtain ⟨c,h⟩:=h;exact ⟨c,owns_below h hb⟩
theorem NwB.touch {B:Nat} {S:Nat→Prop} {w w':World} {a:Option Addr} {l:List UInt8} (h:NwB B w a l) (ht:Touch S w w') (hs:∀ k,B≤k→¬ S k):NwB B w' a l:=by
 obtain ⟨c,h⟩:=h
 exact ⟨c,owns_touch h ht (fun k hk=>hs k (owns_base h k hk))⟩
theorem NwI.touch {B:Nat} {S:Nat→Prop} {w w':World} {a:Option Addr} {l:List Int} (h:NwI B w a l) (ht:Touch S w w') (hs:∀ k,B≤k→¬ S k):NwI B w' a l:=by
 obtain ⟨c,h⟩:=h
 exact ⟨c,owns_touch h ht (fun k hk=>hs k (owns_base h k hk))⟩
theorem NwB.isB {B:Nat} {w:World} {a:Option Addr} {l:List UInt8} (h:NwB B w a l):IsB w a l.length l.length l:=by obtain ⟨c,h⟩:=h;exact (isB_of_owns h rfl).clip
theorem IsI.clip {w:World} {a:Option Addr} {n c:Nat} {l:List Int} (h:IsI w a n c l):IsI w a n n l:=by
 obtain ⟨rfl,h1,h2,h3⟩:=h
 refine ⟨rfl,Nat.le_refl _,Nat.le_trans h1 h2,?_⟩
 rcases h3 with ⟨h,_⟩ | h
 · exact .inl ⟨h,fun _=>by rw [h];rfl⟩
 · exact .inr h
theorem NwI.isI {B:Nat} {w:World} {a:Option Addr} {l:List Int} (h:NwI B w a l):IsI w a l.length l.length l:=by obtain ⟨c,h⟩:=h;exact (isI_of_owns h rfl).clip
theorem NwB.base {B:Nat} {w:World} {a:Option Addr} {l:List UInt8} (h:NwB B w a l):∀ b off,a=some ⟨b,off,none⟩→B≤b:=by
 obtain ⟨c,h⟩:=h
 intro b off ha
 subst ha
 exact owns_base h b rfl
theorem NwI.base {B:Nat} {w:World} {a:Option Addr} {l:List Int} (h:NwI B w a l):∀ b off,a=some ⟨b,off,none⟩→B≤b:=by
 obtain ⟨c,h⟩:=h
 intro b off ha
 subst ha
 exact owns_base h b rfl
theorem NwB.nil (B:Nat) (w:World):NwB B w none []:=⟨0,World.ownsRow_nil _ _ _ _⟩
theorem NwI.nil (B:Nat) (w:World):NwI B w none []:=⟨0,World.ownsRow_nil _ _ _ _⟩
theorem IsB.drop {w:World} {b off n c:Nat} {l:List UInt8} (h:IsB w (some ⟨b,off,none⟩) n c l) (k:Nat) (hk:k≤l.length):IsB w (some ⟨b,off+k,none⟩) (n - k) (c - k) (l.drop k):=by
 have:=h.sub k (l.length - k) (c - k) (by omega) (by have:=h.2.1;omega) (by omega)
 rw [List.take_of_length_le (by simp)] at this
 obtain rfl:=h.1
 exact this
theorem decL_short (x:UInt8) (t:List UInt8) (h:t.length<4*x.toNat):decL (x :: t)=none:=if_pos h
theorem decL_some (x:UInt8) (t:List UInt8) (h:¬ t.length<4*x.toNat):decL (x :: t)=some (decI x.toNat t,t.drop (4*x.toNat)):=if_neg h
theorem fill_step (L:List Int) (k:Nat) (h:k<L.length):(L.take k ++ List.replicate (L.length - k) 0).set k L[k]=L.take (k+1) ++ List.replicate (L.length - (k+1)) 0:=by
 have e:L.length - k=(L.length - (k+1))+1:=by omega
 rw [List.take_succ_eq_append_getElem h,e,List.replicate_succ]
 have hl:(L.take k).length=k:=by simp;omega
 rw [List.set_append_right _ _ (by omega),hl,Nat.sub_self]
 simp only [List.set_cons_zero,List.append_assoc,List.cons_append,List.nil_append]
set_option maxHeartbeats 1000000 in
theorem ngetlist_bad (a:Option Addr) (n c:Nat) (b:List UInt8) (w:World) (hb:IsB w a n c b) (h:decL b=none) :
   Calls Tryz.prog 194 #[.slice a n c] w fun e w' => e=.returned (.tuple #[.slice none 0 0,.int .i64 0,.int .i64 5])∧w=w':=by
 obtain rfl:=hb.1
 have hm:b.length≤9223372036854775807:=by have:=hb.2.1;have:=hb.2.2.1;unfold maxLen at this;omega
 cases b with
 | nil =>
   clear hb h hm
   go_enter Tryz.func194,Tryz.ntmps194
   go_wp2
   go_ret3
   exact ⟨rfl,rfl⟩
 | cons x t =>
   have hs:t.length<4*x.toNat:=by
     rcases Nat.lt_or_ge t.length (4*x.toNat) with h' | h'
     · exact h'
     · rw [decL_some x t (by omega)] at h;cases h
   obtain ⟨ab,ao,rfl⟩:=hb.nonnil (by simp)
   have hc0:w.cell? ⟨ab,ao,none⟩=some (.int .u8 x.toNat):=by
     rcases hb.2.2.2 with ⟨h0,_⟩ | ⟨b',off',h0,_,hc⟩
     · cases h0
     · cases h0
       exact hc 0 (by simp)
   have hx:=x.toNat_lt
   have d1:(((x :: t).length:Int) == 0)=false:=by simp;omega
   have d2:decide (((x :: t).length:Int)<1+4*(x.toNat:Int))=true:=by rw [decide_eq_true_iff];simp;omega
   have hpos:0<(x :: t).length:=by simp
   generalize (x :: t).length=m at d1 d2 hpos hm
   generalize x.toNat=y at hc0 d2 hx
   clear hb h hs
   go_enter Tryz.func194,Tryz.ntmps194
   go_wp2
   go_ret3
   exact ⟨rfl,rfl⟩
set_option maxRecDepth 100000 in
set_option maxHeartbeats 4000000 in
theorem ngetlist_some (ab ao c:Nat) (x:UInt8) (t:List UInt8) (w:World) (hb:IsB w (some ⟨ab,ao,none⟩) (x :: t).length c (x :: t)) (hl:¬ t.length<4*x.toNat) :
   Calls Tryz.prog 194 #[.slice (some ⟨ab,ao,none⟩) (x :: t).length c] w fun e w' => ∃ g,e=.returned (.tuple #[.slice (some ⟨g,0,none⟩) x.toNat x.toNat,.int .i64 ((1+4*x.toNat:Nat):Int),.int .i64 0])∧Below w.heap.size w w'∧w'.ownsRow w.heap.size 3 1 (.slice (some ⟨g,0,none⟩) x.toNat x.toNat) x.toNat (icells (decI x.toNat t)):=by
 obtain ⟨i0,hi,hz0,hz1,hz2⟩:=info_parts infoInt
 have hx:=x.toNat_lt
 have hc0:w.cell? ⟨ab,ao,none⟩=some (.int .u8 x.toNat):=by
   rcases hb.2.2.2 with ⟨h0,_⟩ | ⟨b',off',h0,_,hc⟩
   · cases h0
   · cases h0
     exact hc 0 (by simp)
 have hm:c≤9223372036854775807:=by have:=hb.2.2.1;unfold maxLen at this;omega
 have hbc:=hb.2.1
 have d1:(((x :: t).length:Int) == 0)=false:=by simp;omega
 have d2:decide (((x :: t).length:Int)<1+4*(x.toNat:Int))=false:=by rw [decide_eq_false_iff_not];simp;omega
 have hlen:1+4*x.toNat≤(x :: t).length:=by simp;omega
 have HD:=Lib.hid (decI_get x.toNat t)
 have HL:=Lib.hid (decI_length x.toNat t)
 have HDR:Hid (∀ j,(x :: t).drop (1+4*j)=t.drop (4*j)):=Lib.hid (fun j=>by rw [Nat.add_comm,List.drop_succ_cons])
 have HB:=Lib.hid hb
 have hpos:0<(x :: t).length:=by simp
 generalize (x :: t).length=m at d1 d2 hpos hbc hlen HB ⊢
 generalize x :: t=b at HB HDR
 generalize x.toNat=y at hx hc0 d2 hlen HD HL ⊢
 clear hb hl
 have HE:Hid (((1+4*y:Nat):Int)=1+4*(y:Int)):=Lib.hid (by push_cast;rfl)
 go_enter Tryz.func194,Tryz.ntmps194
 go_wp2_with (first
   | (refine wpList_make_full _ rfl _ _ 22 rfl w.heap.size 3 i0 (.int .i64 0) 1 Tryz.underlying22 hi hz0 hz1 .u8 .u8 _ _ y rfl rfl rfl rfl (by rw [hz2];omega) (by unfold maxLen;omega) (Nat.le_refl _) ?_;intro w1 hown1 hg1)
   | fail)
 have hb1:Below w.heap.size w w1:=(Below.refl _ _).grown hg1 (Nat.le_refl _) (by simp)
 have hl1:(madeCells (Value.int .i64 0).cells (y*1)).toList=icells ((decI y t).take 0 ++ List.replicate ((decI y t).length - 0) 0):=by
   rw [HL.out]
   simp [Value.cells,toList_madeCells_one,icells]
 rw [hl1] at hown1
 have H1:=Lib.hid hown1
 have B1:=Lib.hid hb1
 clear hl1 hg1 hown1 hb1
 obtain ⟨N,hN⟩:∃ N,N=y:=⟨_,rfl⟩
 have HN:=Lib.hid hN
 clear hN d2 d1 hc0
 go_loopw [27] (fun i wr => ∃ k:Nat,k≤y∧i=.int .i64 k∧Hid (wr.ownsRow w.heap.size 3 1 (.slice (some ⟨w.heap.size,0,none⟩) y y) y (icells ((decI y t).take k ++ List.replicate ((decI y t).length - k) 0)))∧Hid (Below w.heap.size w wr)) (fun i _=>N - (intOf i).toNat)
 case atStart=>exact ⟨0,Nat.zero_le _,rfl,H1,B1⟩
 case round =>
   clear H1 B1
   obtain ⟨k,hk,rfl,HO,HBW⟩:=hrel
   by_cases hlt:k<y
   · have hsub:=(HB.out.below HBW.out).drop (1+4*k) (by have:=HB.out.1;omega)
     rw [HDR.out] at hsub
     have hll:(t.drop (4*k)).length=m - (1+4*k):=by rw [← hsub.1]
     have hget:=HD.out k hlt
     have hkl:k<(decI y t).length:=by rw [HL.out];exact hlt
     have hgg:((decI y t)[k]'hkl)=((numOf ((t.drop (4*k)).take 4):Nat):Int):=by
       rw [List.getElem?_eq_getElem hkl] at hget
       exact Option.some.inj hget
     have hq:numOf ((t.drop (4*k)).take 4)<4294967296:=by
       have:=numOf_lt ((t.drop (4*k)).take 4)
       have h4:((t.drop (4*k)).take 4).length=4:=by rw [List.length_take,hll];omega
       rw [h4] at this
       exact this
     have HGG:=Lib.hid hgg
     have HS:=Lib.hid hsub
     have HLL:=Lib.hid hll
     have HFS:=Lib.hid (fill_step (decI y t) k hkl)
     clear hsub hll hget hgg
     go_wp2_with fail
     refine (nget_any _ _ 4 _ (t.drop (4*k)) wr HS.out (by decide) (by decide) (by rw [HLL.out];omega)).mono ?_;rintro e w2 ⟨rfl,hb2⟩
     generalize numOf ((t.drop (4*k)).take 4)=q at hq HGG
     have hown2:=owns_below HO.out hb2
     have hB2:=HBW.out.trans (hb2.mono HBW.out.size)
     obtain ⟨old,hcell⟩:∃ v:Int,w2.cell? ⟨w.heap.size,k,none⟩=some (.int .i64 v):=⟨_,owns_icell hown2 k (by simp;omega)⟩
     have hfr:=hown2.frozenAt k
     obtain ⟨h2,h3⟩:=hown2.stored k (.int .i64 (q:Int))
     have e2:((decI y t).take k ++ List.replicate ((decI y t).length - k) 0).set k (q:Int)=(decI y t).take (k+1) ++ List.replicate ((decI y t).length - (k+1)) 0:=by
       rw [← HGG.out];exact HFS.out
     rw [icells_set,e2] at h2
     have HN2:=Lib.hid h2
     have HG2:=Lib.hid (hB2.grown h3 hB2.size (fun j hj=>by cases hj;exact Nat.le_refl _))
     clear h2 h3 hown2 hB2 hb2 e2
     go_wp2_with fail
     go_roundw
     case rel=>exact ⟨k+1,by omega,by go_num,HN2,HG2⟩
     case measure=>have:=HN.out;simp [intOf];omega
   · have hkk:k=y:=by omega
     subst hkk
     have e0:(decI k t).take k ++ List.replicate ((decI k t).length - k) 0=decI k t:=by
       rw [HL.out,Nat.sub_self,List.replicate_zero,List.append_nil,List.take_of_length_le (by rw [HL.out];exact Nat.le_refl _)]
     have HO2:=HO.out
     rw [e0] at HO2
     have H2:=Lib.hid HO2
     clear HO2 e0
     go_wp2_with fail
     go_ret3
     exact ⟨w.heap.size,by rw [HE.out];rfl,HBW.out,H2.out⟩
theorem ngetlist_ok (a:Option Addr) (n c:Nat) (b:List UInt8) (l:List Int) (r:List UInt8) (w:World) (hb:IsB w a n c b) (h:decL b=some (l,r)) :
   Calls Tryz.prog 194 #[.slice a n c] w fun e w' => ∃ g,e=.returned (.tuple #[.slice (some ⟨g,0,none⟩) l.length l.length,.int .i64 ((1+4*l.length:Nat):Int),.int .i64 0])∧Below w.heap.size w w'∧w'.ownsRow w.heap.size 3 1 (.slice (some ⟨g,0,none⟩) l.length l.length) l.length (icells l)∧1+4*l.length≤b.length∧r=b.drop (1+4*l.length):=by
 cases b with
 | nil=>cases h
 | cons x t =>
   by_cases hl:t.length<4*x.toNat
   · rw [decL_short x t hl] at h;cases h
   rw [decL_some x t hl] at h
   obtain ⟨rfl,rfl⟩:=Prod.mk.inj (Option.some.inj h)
   obtain ⟨ab,ao,rfl⟩:=hb.nonnil (by simp)
   obtain rfl:=hb.1
   refine (ngetlist_some ab ao c x t w hb hl).mono ?_
   rintro e w' ⟨g,rfl,h1,h2⟩
   rw [decI_length]
   exact ⟨g,rfl,h1,h2,by simp;omega,by rw [Nat.add_comm,List.drop_succ_cons]⟩
theorem decL_len {b:List UInt8} {l:List Int} {r:List UInt8} (h:decL b=some (l,r)):l.length≤255∧1+4*l.length≤b.length:=by
 cases b with
 | nil=>cases h
 | cons x t =>
   by_cases hl:t.length<4*x.toNat
   · rw [decL_short x t hl] at h;cases h
   rw [decL_some x t hl] at h
   obtain ⟨rfl,rfl⟩:=Prod.mk.inj (Option.some.inj h)
   have:=x.toNat_lt
   rw [decI_length]
   exact ⟨by omega,by simp;omega⟩
set_option maxHeartbeats 1000000 in
theorem ngetbytes_bad (a:Option Addr) (n c:Nat) (b:List UInt8) (w:World) (hb:IsB w a n c b) (h:decB b=none) :
   Calls Tryz.prog 197 #[.slice a n c] w fun e w' => e=.returned (.tuple #[.slice none 0 0,.int .i64 0,.int .i64 5])∧Below w.heap.size w w':=by
 obtain rfl:=hb.1
 have hm:b.length≤9223372036854775807:=by have:=hb.2.1;have:=hb.2.2.1;unfold maxLen at this;omega
 by_cases hs:b.length<2
 · have HB:=Lib.hid hb
   have d:(5:Int)≠0:=by decide
   clear hb h
   go_enter Tryz.func197,Tryz.ntmps197
   go_wp2_with (first
     | (go_at_call 196;refine (nget_short a c 2 _ b w HB.out (by decide) (by decide) hs).mono ?_;rintro e w1 ⟨rfl,hb1⟩)
     | fail)
   go_ret3
   exact ⟨rfl,hb1⟩
 · have hq:numOf (b.take 2)<65536:=by
     have:=numOf_lt (b.take 2)
     have h4:(b.take 2).length=2:=by rw [List.length_take];omega
     rw [h4] at this
     exact this
   have hs2:b.length<2+numOf (b.take 2):=by
     unfold decB at h
     rw [if_neg hs] at h
     rcases Nat.lt_or_ge b.length (2+numOf (b.take 2)) with h' | h'
     · exact h'
     · rw [if_neg (by omega)] at h;cases h
   have HB:=Lib.hid hb
   clear hb h
   go_enter Tryz.func197,Tryz.ntmps197
   go_wp2_with fail
   refine (nget_any a c 2 _ b w HB.out (by decide) (by decide) (by omega)).mono ?_;rintro e w1 ⟨rfl,hb1⟩
   generalize numOf (b.take 2)=q at hq hs2
   have d2:decide ((b.length:Int)<2+(q:Int))=true:=by rw [decide_eq_true_iff];omega
   go_wp2_with fail
   go_ret3
   exact ⟨rfl,hb1⟩
set_option maxHeartbeats 2000000 in
theorem ngetbytes_ok (a:Option Addr) (n c:Nat) (b:List UInt8) (l r:List UInt8) (w:World) (hb:IsB w a n c b) (h:decB b=some (l,r)) :
   Calls Tryz.prog 197 #[.slice a n c] w fun e w' => ∃ a',e=.returned (.tuple #[.slice a' l.length l.length,.int .i64 ((2+l.length:Nat):Int),.int .i64 0])∧Below w.heap.size w w'∧NwB w.heap.size w' a' l∧2+l.length≤b.length∧r=b.drop (2+l.length):=by
 obtain rfl:=hb.1
 have hm:c≤9223372036854775807:=by have:=hb.2.2.1;unfold maxLen at this;omega
 have hbc:=hb.2.1
 have hs:2≤b.length:=by
   unfold decB at h
   rcases Nat.lt_or_ge b.length 2 with h' | h'
   · rw [if_pos h'] at h;cases h
   · exact h'
 have hq:numOf (b.take 2)<65536:=by
   have:=numOf_lt (b.take 2)
   have h4:(b.take 2).length=2:=by rw [List.length_take];omega
   rw [h4] at this
   exact this
 have hs2:2+numOf (b.take 2)≤b.length:=by
   unfold decB at h
   rw [if_neg (by omega)] at h
   rcases Nat.lt_or_ge b.length (2+numOf (b.take 2)) with h' | h'
   · rw [if_pos h'] at h;cases h
   · exact h'
 have hdec:l=(b.drop 2).take (numOf (b.take 2))∧r=b.drop (2+numOf (b.take 2)):=by
   unfold decB at h
   rw [if_neg (by omega),if_neg (by omega)] at h
   obtain ⟨h1,h2⟩:=Prod.mk.inj (Option.some.inj h)
   exact ⟨h1.symm,h2.symm⟩
 obtain ⟨h1,h2⟩:=hdec
 have hll:l.length=numOf (b.take 2):=by rw [h1];simp;omega
 have HL:=Lib.hid hll
 have H1:=Lib.hid h1
 have H2:=Lib.hid h2
 have HB:=Lib.hid hb
 obtain ⟨ab,ao,rfl⟩:=hb.nonnil (by omega)
 clear hb h h1 h2 hll
 by_cases hc2:c=2
 · subst hc2
   have hb2:b.length=2:=by omega
   have HB2:=Lib.hid hb2
   clear hb2
   go_enter Tryz.func197,Tryz.ntmps197
   go_wp2_with fail
   refine (nget_any _ 2 2 _ b w HB.out (by decide) (by decide) (by omega)).mono ?_;rintro e w1 ⟨rfl,hb1⟩
   have hq0:numOf (b.take 2)=0:=by omega
   rw [hq0] at HL H1 H2 ⊢
   have HE1:Hid (l=[]):=Lib.hid (List.eq_nil_of_length_eq_zero HL.out)
   clear hq0
   have d2:decide ((b.length:Int)<2)=false:=by rw [decide_eq_false_iff_not];omega
   go_wp2_with (first
     | (go_at_call 131;refine (sclone_any _ 0 _ [] w1 ⟨rfl,Nat.le_refl _,by decide,.inl ⟨rfl,fun h=>by first | cases h | rfl⟩⟩ (by decide)).mono ?_;rintro e w2 ⟨a2,c2,rfl,hb2,hi2,ho2⟩)
     | (go_at_call 130;refine (clip_any a2 _ c2 w2 hi2.2.1 hi2.2.2.1 hi2.noneCap).mono ?_;rintro e w3 ⟨rfl,rfl⟩)
     | fail)
   go_ret3
   have:=HE1.out
   subst this
   exact ⟨a2,rfl,hb1.trans (hb2.mono hb1.size),⟨c2,owns_low ho2 hb1.size⟩,by simp;omega,H2.out⟩
 · go_enter Tryz.func197,Tryz.ntmps197
   go_wp2_with fail
   refine (nget_any _ c 2 _ b w HB.out (by decide) (by decide) (by omega)).mono ?_;rintro e w1 ⟨rfl,hb1⟩
   have hsub:=(HB.out.below hb1).sub 2 (numOf (b.take 2)) (c - 2) (by omega) (by omega) (by omega)
   rw [← H1.out] at hsub
   generalize numOf (b.take 2)=q at hq hs2 HL H2 hsub
   have d2:decide ((b.length:Int)<2+(q:Int))=false:=by rw [decide_eq_false_iff_not];omega
   have HE:Hid (((2+q:Nat):Int)=2+(q:Int)):=Lib.hid (by push_cast;rfl)
   have HSB:=Lib.hid hsub
   clear hsub
   go_wp2_with (first
     | (go_at_call 131;refine (sclone_any _ _ _ l w1 (by first | exact HSB.out | (have:=HSB.out;simpa using this)) (by have:=HL.out;omega)).mono ?_;rintro e w2 ⟨a2,c2,rfl,hb2,hi2,ho2⟩)
     | (go_at_call 130;refine (clip_any a2 _ c2 w2 hi2.2.1 hi2.2.2.1 hi2.noneCap).mono ?_;rintro e w3 ⟨rfl,rfl⟩)
     | fail)
   go_ret3
   exact ⟨a2,by rw [HL.out,HE.out];rfl,hb1.trans (hb2.mono hb1.size),⟨c2,owns_low ho2 hb1.size⟩,by rw [HL.out];exact hs2,by rw [HL.out];exact H2.out⟩
/- The package stores: a reader of bytes;conditions: those typed. -/
variable {P:Nat→Prop}
def isU8:Value→Bool
 | .int .u8 _=>true
 | _=>false
def isI64:Value→Bool
 | .int .i64 _=>true
 | _=>false
theorem noU8 {C:Array Value} (h:C.toList.all (fun v => !isU8 v)=true):∀ (i:Nat) (v:Value),C[i]?=some v→¬ ∃ x:Int,v=Value.int .u8 x:=by
 rintro i v hv ⟨x,rfl⟩
 have hm:Value.int .u8 x ∈ C.toList:=by
   rw [← Array.getElem?_toList] at hv
   exact List.mem_of_getElem? hv
 have:=List.all_eq_true.1 h _ hm
 simp [isU8] at this
theorem IsB.off {w:World} {a:Option Addr} {n c k:Nat} {l:List UInt8} {C:Array Value} {ty:TypeId} (h:IsB w a n c l) (hC:w.heap[k]?=some (.cells C ty (0,0))) (hx:C.toList.all (fun v => !isU8 v)=true):∀ b off,a=some ⟨b,off,none⟩→l≠[]→¬ (b=k):=by
 intro b off ha hl hb
 subst hb
 rcases h.2.2.2 with ⟨h0,_⟩ | ⟨b',off',h0,hlt,hc⟩
 · exact hl h0
 · rw [ha] at h0
   cases h0
   have:=hc 0 (List.length_pos_iff.2 hl)
   rw [cell_of_block hC] at this
   exact noU8 hx _ _ this ⟨((l[0]'(List.length_pos_iff.2 hl)).toNat:Int),rfl⟩
theorem IsI.off {w:World} {a:Option Addr} {n c k:Nat} {l:List Int} {C:Array Value} {ty:TypeId} (h:IsI w a n c l) (hC:w.heap[k]?=some (.cells C ty (0,0))) (hx:C.toList.all (fun v => !isI64 v)=true):∀ b off,a=some ⟨b,off,none⟩→l≠[]→¬ (b=k):=by
 intro b off ha hl hb
 subst hb
 rcases h.2.2.2 with ⟨h0,_⟩ | ⟨b',off',h0,hlt,hc⟩
 · exact hl h0
 · rw [ha] at h0
   cases h0
   have:=hc 0 (List.length_pos_iff.2 hl)
   rw [cell_of_block hC,← Array.getElem?_toList] at this
   have:=List.all_eq_true.1 hx _ (List.mem_of_getElem? this)
   simp [isI64] at this
theorem IsI.touch {S:Nat→Prop} {w w':World} {a:Option Addr} {n c:Nat} {l:List Int} (h:IsI w a n c l) (ht:Touch S w w') (hs:∀ b off,a=some ⟨b,off,none⟩→l≠[]→¬ S b):IsI w' a n c l:=by
 obtain ⟨h1,h2,h3,h4 | ⟨b,off,rfl,hlt,hc⟩⟩:=h
 · exact ⟨h1,h2,h3,.inl h4⟩
 · by_cases hl:l=[]
   · exact ⟨h1,h2,h3,.inl ⟨hl,fun h=>by cases h⟩⟩
   · exact ⟨h1,h2,h3,.inr ⟨b,off,rfl,Nat.lt_of_lt_of_le hlt ht.size,fun i hi=>ht.cell (hc i hi) (hs b off rfl hl)⟩⟩
def IsRd (P:Nat→Prop) (w:World) (br:Nat) (b:List UInt8) (bad:Bool):Prop :=
 ∃ a n c,w.heap[br]?=some (.cells #[.slice a n c,.bool bad] 161 (0,0))∧IsB w a n c b∧∀ k off,a=some ⟨k,off,none⟩→b≠[]→P k
theorem IsRd.below {w w':World} {br:Nat} {b:List UInt8} {bad:Bool} (h:IsRd P w br b bad) (hb:Below w.heap.size w w'):IsRd P w' br b bad:=by
 obtain ⟨a,n,c,h1,h2,h3⟩:=h
 exact ⟨a,n,c,below_heap hb h1 (lt_of_heap h1),h2.below hb,h3⟩
def RdTo (P:Nat→Prop) (w':World) (br:Nat) (b:List UInt8):Option (List UInt8)→Prop
 | none=>IsRd P w' br b true
 | some r=>IsRd P w' br r false
set_option maxHeartbeats 2000000 in
theorem takes_ok (br n c k:Nat) (a:Option Addr) (b:List UInt8) (w:World) (h:w.heap[br]?=some (.cells #[.slice a n c,.bool false] 161 (0,0))) (hb:IsB w a n c b) (hp:∀ k off,a=some ⟨k,off,none⟩→b≠[]→P k) (hk:k≤b.length) (hk0:1≤k) :
   Calls Tryz.prog 195 #[.pointer (some ⟨br,0,none⟩),.int .i64 k,.int .i64 0] w fun e w' => e=.returned (.tuple #[])∧Touch (fun j=>j=br) w w'∧IsRd P w' br (b.drop k) false:=by
 obtain ⟨ab,ao,rfl⟩:=hb.nonnil (by omega)
 obtain rfl:=hb.1
 have f0:w.cell? ⟨br,0,none⟩=some (.slice (some ⟨ab,ao,none⟩) b.length c):=by rw [cell_of_block h];rfl
 have f1:w.cell? ⟨br,1,none⟩=some (.bool false):=by rw [cell_of_block h];rfl
 have f2:w.frozen? ⟨br,1,none⟩=false:=blk_free h
 have f3:w.frozen? ⟨br,0,none⟩=false:=blk_free h
 have d1:decide (b.length<k)=false:=decide_eq_false (by omega)
 have hm:c≤9223372036854775807:=by have:=hb.2.2.1;unfold maxLen at this;omega
 have hoff:=hb.off h (by rfl)
 have HB:=Lib.hid hb
 have HH:=Lib.hid h
 have hbc:=hb.2.1
 have key:∀ (aa:Addr) (x y:Nat) (r:List UInt8),x=b.length - k→y=c - k→r=b.drop k→(k<c→aa=⟨ab,ao+k,none⟩) →
     Touch (fun j=>j=br) w ((w.setCell ⟨br,1,none⟩ (.bool false)).setCell ⟨br,0,none⟩ (.slice (some aa) x y))∧IsRd P ((w.setCell ⟨br,1,none⟩ (.bool false)).setCell ⟨br,0,none⟩ (.slice (some aa) x y)) br r false:=fun aa x y r hx hy hr h2=>by
   subst hx hy hr
   have ht:Touch (fun j=>j=br) w ((w.setCell ⟨br,1,none⟩ (.bool false)).setCell ⟨br,0,none⟩ (.slice (some aa) (b.length - k) (c - k))):=Touch.setCell (Touch.setCell (Touch.refl (fun j=>j=br) w) ⟨br,1,none⟩ _ (.inl rfl)) ⟨br,0,none⟩ _ (.inl rfl)
   refine ⟨ht,some aa,b.length - k,c - k,?_,?_,fun y off hy hl => ?_⟩
   · rw [heap_setCell_same _ br 0 #[.slice (some ⟨ab,ao,none⟩) b.length c,.bool false] _ _ (by rw [heap_setCell_same _ br 1 _ _ _ HH.out];rfl)]
     rfl
   · have hb':=HB.out.touch ht (fun x off hx hl=>by have:=hoff x off hx hl;exact this)
     by_cases hkc:k<c
     · have e:=h2 hkc
       subst e
       exact hb'.drop k hk
     · have hkl:k=b.length:=by omega
       have hd:b.drop k=[]:=List.drop_eq_nil_of_le (by omega)
       rw [hd]
       exact ⟨by simp;omega,by simp,by unfold maxLen;omega,.inl ⟨rfl,fun h=>by cases h⟩⟩
   · by_cases hkc:k<c
     · have e:=h2 hkc
       subst e
       cases hy
       exact hp ab ao rfl (fun e=>hl (by rw [e];simp))
     · exact absurd (List.drop_eq_nil_of_le (by omega)) hl
 have KEY:=Lib.hid key
 clear h hb hoff key hp
 by_cases hkc:k=c
 · have hkl:k=b.length:=by omega
   have HD:Hid ([]=b.drop k):=Lib.hid (List.drop_eq_nil_of_le (by omega)).symm
   have HX:Hid (0=b.length - k):=Lib.hid (by omega)
   have HY:Hid (0=c - k):=Lib.hid (by omega)
   subst hkc
   go_enter Tryz.func195,Tryz.ntmps195
   go_wp2
   go_end0
   first
     | exact ⟨rfl,KEY.out _ _ _ _ rfl rfl rfl (fun h=>by omega)⟩
     | exact ⟨rfl,KEY.out _ _ _ _ HX.out HY.out HD.out (fun h=>by omega)⟩
     | exact ⟨rfl,KEY.out _ _ _ _ HX.out HY.out rfl (fun h=>by omega)⟩
 · have hkc':k<c:=by omega
   go_enter Tryz.func195,Tryz.ntmps195
   go_wp2
   go_end0
   exact ⟨rfl,KEY.out _ _ _ _ rfl rfl rfl (fun _=>rfl)⟩
set_option maxHeartbeats 1000000 in
theorem takes_bad (br n c:Nat) (k e:Int) (a:Option Addr) (b:List UInt8) (w:World) (h:w.heap[br]?=some (.cells #[.slice a n c,.bool false] 161 (0,0))) (hb:IsB w a n c b) (hp:∀ k off,a=some ⟨k,off,none⟩→b≠[]→P k) (he:e≠0) :
   Calls Tryz.prog 195 #[.pointer (some ⟨br,0,none⟩),.int .i64 k,.int .i64 e] w fun e w' => e=.returned (.tuple #[])∧Touch (fun j=>j=br) w w'∧IsRd P w' br b true:=by
 have f1:w.cell? ⟨br,1,none⟩=some (.bool false):=by rw [cell_of_block h];rfl
 have f2:w.frozen? ⟨br,1,none⟩=false:=blk_free h
 have d1:(e != 0)=true:=by simpa using he
 have ht:Touch (fun j=>j=br) w (w.setCell ⟨br,1,none⟩ (.bool true)):=Touch.setCell (Touch.refl (fun j=>j=br) w) ⟨br,1,none⟩ _ (.inl rfl)
 have HR:Hid (Touch (fun j=>j=br) w (w.setCell ⟨br,1,none⟩ (.bool true))∧IsRd P (w.setCell ⟨br,1,none⟩ (.bool true)) br b true):=Lib.hid ⟨ht,a,n,c,by rw [heap_setCell_same _ br 1 _ _ _ h];rfl,hb.touch ht (fun x off hx hl=>by have:=hb.off h (by rfl) x off hx hl;exact this),hp⟩
 clear h hb he ht hp
 go_enter Tryz.func195,Tryz.ntmps195
 go_wp2
 go_end0
 exact ⟨rfl,HR.out⟩
/- The package stores: what a reader reads;conditions: those typed. -/
variable {P:Nat→Prop}
theorem decN_some {k:Nat} {b:List UInt8} (h:k≤b.length):decN k b=some (numOf (b.take k),b.drop k):=by unfold decN;rw [if_neg (by omega)]
theorem decN_none {k:Nat} {b:List UInt8} (h:b.length<k):decN k b=none:=by unfold decN;rw [if_pos h]
set_option maxHeartbeats 1000000 in
theorem rnum_ok (br k:Nat) (b:List UInt8) (w:World) (h:IsRd P w br b false) (hk1:1≤k) (hk8:k≤8) :
   Calls Tryz.prog 151 #[.pointer (some ⟨br,0,none⟩),.int .i64 k] w fun e w' => e=.returned (.int .u64 ((((decN k b).map (·.1)).getD 0:Nat):Int))∧Touch (fun j=>j=br) w w'∧RdTo P w' br b ((decN k b).map (·.2)):=by
 obtain ⟨a,n,c,hh,hb,hp⟩:=h
 have HP:=Lib.hid hp
 have f0:w.cell? ⟨br,0,none⟩=some (.slice a n c):=by rw [cell_of_block hh];rfl
 by_cases hl:k≤b.length
 · rw [decN_some hl]
   have HH:=Lib.hid hh
   have HB:=Lib.hid hb
   clear hh hb hp
   go_enter Tryz.func151,Tryz.ntmps151
   go_wp2_with fail
   refine (nget_any a c k n b w HB.out hk1 hk8 hl).mono ?_;rintro e w1 ⟨rfl,hb1⟩
   have HH1:=Lib.hid (below_heap hb1 HH.out (lt_of_heap HH.out))
   have HB1:=Lib.hid (HB.out.below hb1)
   have T1:=Lib.hid (Touch.of_below (S:=fun j=>j=br) hb1)
   clear hb1 f0 HH HB
   go_wp2_with fail
   refine (takes_ok br n c k a b w1 HH1.out HB1.out HP.out hl hk1).mono ?_;rintro e w2 ⟨rfl,ht2,hr2⟩
   have T2:=Lib.hid (T1.out.trans ht2)
   have R2:=Lib.hid hr2
   clear ht2 hr2
   go_wp2_with fail
   go_ret
   exact ⟨rfl,T2.out,R2.out⟩
 · rw [decN_none (by omega)]
   have HH:=Lib.hid hh
   have HB:=Lib.hid hb
   clear hh hb hp
   go_enter Tryz.func151,Tryz.ntmps151
   go_wp2_with fail
   refine (nget_short a c k n b w HB.out hk1 hk8 (by omega)).mono ?_;rintro e w1 ⟨rfl,hb1⟩
   have HH1:=Lib.hid (below_heap hb1 HH.out (lt_of_heap HH.out))
   have HB1:=Lib.hid (HB.out.below hb1)
   have T1:=Lib.hid (Touch.of_below (S:=fun j=>j=br) hb1)
   clear hb1 f0 HH HB
   go_wp2_with fail
   refine (takes_bad br n c k 5 a b w1 HH1.out HB1.out HP.out (by decide)).mono ?_;rintro e w2 ⟨rfl,ht2,hr2⟩
   have T2:=Lib.hid (T1.out.trans ht2)
   have R2:=Lib.hid hr2
   clear ht2 hr2
   go_wp2_with fail
   go_ret
   exact ⟨rfl,T2.out,R2.out⟩
def ListV (B:Nat) (w:World) (v:Value):Option (List Int × List UInt8)→Prop
 | none=>v=.slice none 0 0
 | some (l,_) => ∃ g,v=.slice (some ⟨g,0,none⟩) l.length l.length∧w.ownsRow B 3 1 v l.length (icells l)
def BytesV (B:Nat) (w:World) (v:Value):Option (List UInt8 × List UInt8)→Prop
 | none=>v=.slice none 0 0
 | some (l,_) => ∃ a,v=.slice a l.length l.length∧NwB B w a l
theorem ListV.one {B:Nat} {w:World} {v:Value} {o:Option (List Int × List UInt8)} (h:ListV B w v o):∃ a n c,v=.slice a n c:=by
 cases o with
 | none=>exact ⟨none,0,0,h⟩
 | some x=>obtain ⟨l,r⟩:=x;obtain ⟨g,h,_⟩:=h;exact ⟨_,_,_,h⟩
theorem BytesV.one {B:Nat} {w:World} {v:Value} {o:Option (List UInt8 × List UInt8)} (h:BytesV B w v o):∃ a n c,v=.slice a n c:=by
 cases o with
 | none=>exact ⟨none,0,0,h⟩
 | some x=>obtain ⟨l,r⟩:=x;obtain ⟨g,h,_⟩:=h;exact ⟨_,_,_,h⟩
theorem ListV.touch {B:Nat} {S:Nat→Prop} {w w':World} {v:Value} {o:Option (List Int × List UInt8)} (h:ListV B w v o) (ht:Touch S w w') (hs:∀ k,B≤k→¬ S k):ListV B w' v o:=by
 cases o with
 | none=>exact h
 | some x=>obtain ⟨l,r⟩:=x;obtain ⟨g,h,h2⟩:=h;exact ⟨g,h,owns_touch h2 ht (fun k hk=>hs k (owns_base h2 k hk))⟩
theorem BytesV.touch {B:Nat} {S:Nat→Prop} {w w':World} {v:Value} {o:Option (List UInt8 × List UInt8)} (h:BytesV B w v o) (ht:Touch S w w') (hs:∀ k,B≤k→¬ S k):BytesV B w' v o:=by
 cases o with
 | none=>exact h
 | some x=>obtain ⟨l,r⟩:=x;obtain ⟨a,h,h2⟩:=h;exact ⟨a,h,h2.touch ht hs⟩
set_option maxHeartbeats 1000000 in
theorem rlist_ok (br:Nat) (b:List UInt8) (w:World) (h:IsRd P w br b false) :
   Calls Tryz.prog 149 #[.pointer (some ⟨br,0,none⟩)] w fun e w' => ∃ v,e=.returned v∧Touch (fun j=>j=br) w w'∧RdTo P w' br b ((decL b).map (·.2))∧ListV w.heap.size w' v (decL b):=by
 obtain ⟨a,n,c,hh,hb,hp⟩:=h
 have HP:=Lib.hid hp
 have f0:w.cell? ⟨br,0,none⟩=some (.slice a n c):=by rw [cell_of_block hh];rfl
 have HH:=Lib.hid hh
 have HB:=Lib.hid hb
 have hbr:br<w.heap.size:=lt_of_heap hh
 clear hh hb hp
 cases hd:decL b with
 | none =>
   have HD:=Lib.hid hd
   clear hd
   go_enter Tryz.func149,Tryz.ntmps149
   go_wp2_with fail
   refine (ngetlist_bad a n c b w HB.out HD.out).mono ?_;rintro e w1 ⟨rfl,rfl⟩
   go_wp2_with fail
   refine (takes_bad br n c 0 5 a b w HH.out HB.out HP.out (by decide)).mono ?_;rintro e w2 ⟨rfl,ht2,hr2⟩
   have T2:=Lib.hid ht2
   have R2:=Lib.hid hr2
   clear ht2 hr2
   go_wp2_with fail
   go_ret
   exact ⟨_,rfl,T2.out,R2.out,rfl⟩
 | some x =>
   obtain ⟨l,r⟩:=x
   have HD:=Lib.hid hd
   clear hd
   go_enter Tryz.func149,Tryz.ntmps149
   go_wp2_with fail
   refine (ngetlist_ok a n c b l r w HB.out HD.out).mono ?_;rintro e w1 ⟨g,rfl,hb1,hown,hle,hr⟩
   have HH1:=Lib.hid (below_heap hb1 HH.out (lt_of_heap HH.out))
   have HB1:=Lib.hid (HB.out.below hb1)
   have T1:=Lib.hid (Touch.of_below (S:=fun j=>j=br) hb1)
   have HO:=Lib.hid hown
   have HLE:=Lib.hid hle
   have HR:=Lib.hid hr
   clear hb1 f0 HH HB hown hle hr
   go_wp2_with fail
   refine (takes_ok br n c (1+4*l.length) a b w1 HH1.out HB1.out HP.out HLE.out (by omega)).mono ?_;rintro e w2 ⟨rfl,ht2,hr2⟩
   have T2:=Lib.hid (T1.out.trans ht2)
   rw [← HR.out] at hr2
   have R2:=Lib.hid hr2
   have O2:=Lib.hid (owns_touch HO.out ht2 (fun k hk=>by have:=owns_base HO.out k hk;omega))
   clear ht2 hr2
   go_wp2_with fail
   go_ret
   exact ⟨_,rfl,T2.out,R2.out,g,rfl,O2.out⟩
set_option maxHeartbeats 1000000 in
theorem rbytes_ok (br:Nat) (b:List UInt8) (w:World) (h:IsRd P w br b false) :
   Calls Tryz.prog 153 #[.pointer (some ⟨br,0,none⟩)] w fun e w' => ∃ v,e=.returned v∧Touch (fun j=>j=br) w w'∧RdTo P w' br b ((decB b).map (·.2))∧BytesV w.heap.size w' v (decB b):=by
 obtain ⟨a,n,c,hh,hb,hp⟩:=h
 have HP:=Lib.hid hp
 have f0:w.cell? ⟨br,0,none⟩=some (.slice a n c):=by rw [cell_of_block hh];rfl
 have HH:=Lib.hid hh
 have HB:=Lib.hid hb
 have hbr:br<w.heap.size:=lt_of_heap hh
 clear hh hb hp
 cases hd:decB b with
 | none =>
   have HD:=Lib.hid hd
   clear hd
   go_enter Tryz.func153,Tryz.ntmps153
   go_wp2_with fail
   refine (ngetbytes_bad a n c b w HB.out HD.out).mono ?_;rintro e w1 ⟨rfl,hb1⟩
   have HH1:=Lib.hid (below_heap hb1 HH.out (lt_of_heap HH.out))
   have HB1:=Lib.hid (HB.out.below hb1)
   have T1:=Lib.hid (Touch.of_below (S:=fun j=>j=br) hb1)
   clear hb1 f0 HH HB
   go_wp2_with fail
   refine (takes_bad br n c 0 5 a b w1 HH1.out HB1.out HP.out (by decide)).mono ?_;rintro e w2 ⟨rfl,ht2,hr2⟩
   have T2:=Lib.hid (T1.out.trans ht2)
   have R2:=Lib.hid hr2
   clear ht2 hr2
   go_wp2_with fail
   go_ret
   exact ⟨_,rfl,T2.out,R2.out,rfl⟩
 | some x =>
   obtain ⟨l,r⟩:=x
   have HD:=Lib.hid hd
   clear hd
   go_enter Tryz.func153,Tryz.ntmps153
   go_wp2_with fail
   refine (ngetbytes_ok a n c b l r w HB.out HD.out).mono ?_;rintro e w1 ⟨a1,rfl,hb1,hown,hle,hr⟩
   have HH1:=Lib.hid (below_heap hb1 HH.out (lt_of_heap HH.out))
   have HB1:=Lib.hid (HB.out.below hb1)
   have T1:=Lib.hid (Touch.of_below (S:=fun j=>j=br) hb1)
   have HO:=Lib.hid hown
   have HLE:=Lib.hid hle
   have HR:=Lib.hid hr
   clear hb1 f0 HH HB hown hle hr
   go_wp2_with fail
   refine (takes_ok br n c (2+l.length) a b w1 HH1.out HB1.out HP.out HLE.out (by omega)).mono ?_;rintro e w2 ⟨rfl,ht2,hr2⟩
   have T2:=Lib.hid (T1.out.trans ht2)
   rw [← HR.out] at hr2
   have R2:=Lib.hid hr2
   have O2:=Lib.hid (HO.out.touch ht2 (fun k hk=>by omega))
   clear ht2 hr2
   go_wp2_with fail
   go_ret
   exact ⟨_,rfl,T2.out,R2.out,a1,rfl,O2.out⟩
/- The package stores: the ways of a reader,one behind the other;conditions: those typed. -/
variable {P:Nat→Prop}
def Ways (w:World) (wa:Option Addr) (fs:List (Nat × Array Value)):Prop :=
 ∃ vb vo,wa=some ⟨vb,vo,none⟩∧∀ j (h:j<fs.length),w.cell? ⟨vb,vo+j,none⟩=some (.func (.func fs[j].1) #[] fs[j].2)
set_option maxRecDepth 100000 in
set_option maxHeartbeats 2000000 in
theorem runs_any (br:Nat) (wa:Option Addr) (wc:Nat) (fs:List (Nat × Array Value)) (J:Nat→List UInt8→Bool→World→Prop) (b0:List UInt8) (w:World)
   (hJ:∀ i b bad W,J i b bad W→IsRd P W br b bad∧Ways W wa fs)
   (hlen:fs.length≤100) (hwc:fs.length≤wc∧wc≤100)
   (hstep:∀ i (hi:i<fs.length) b W,J i b false W→Calls Tryz.prog fs[i].1 fs[i].2 W fun e W' => e=.returned (.tuple #[])∧∃ b' bad',J (i+1) b' bad' W')
   (hcall:∀ i (hi:i<fs.length) W,(callFunc fs[i].1 fs[i].2).run Tryz.prog W=.ok (.enter fs[i].1 fs[i].2) W)
   (hskip:∀ i b W,J i b true W→J (i+1) b true W)
   (h0:J 0 b0 false w) :
   Calls Tryz.prog 147 #[.pointer (some ⟨br,0,none⟩),.slice wa fs.length wc] w fun e w' => ∃ b bad,J fs.length b bad w'∧e=.returned (.bool (!bad && b.isEmpty)):=by
 obtain ⟨N,hN⟩:∃ N,N=fs.length:=⟨_,rfl⟩
 have HN:=Lib.hid hN
 have HJ:=Lib.hid hJ
 have HST:=Lib.hid hstep
 have HCF:=Lib.hid hcall
 have HSK:=Lib.hid hskip
 obtain ⟨hw1,hw2⟩:=hwc
 clear hN hJ hstep hskip hcall
 go_enter Tryz.func147,Tryz.ntmps147
 go_wp2_with fail
 go_loopw [9] (fun i wr => ∃ j:Nat,j≤fs.length∧i=.int .i64 j∧Hid (∃ b bad,J j b bad wr)) (fun i _=>N - (intOf i).toNat)
 case atStart=>exact ⟨0,Nat.zero_le _,rfl,Lib.hid ⟨b0,false,h0⟩⟩
 case round =>
   obtain ⟨j,hj,rfl,HS⟩:=hrel
   obtain ⟨b,bad,hs⟩:=HS.out
   obtain ⟨⟨a,n,c,hr,hb,_⟩,vb,vo,rfl,hw⟩:=HJ.out _ _ _ _ hs
   have f0:wr.cell? ⟨br,0,none⟩=some (.slice a n c):=by rw [cell_of_block hr];rfl
   have f1:wr.cell? ⟨br,1,none⟩=some (.bool bad):=by rw [cell_of_block hr];rfl
   have HSS:=Lib.hid hs
   have HBB:=Lib.hid hb
   clear hr hs hb h0
   by_cases hlt:j<fs.length
   · have hcw:=hw j hlt
     clear hw
     cases bad with
     | true =>
       go_wp2_with fail
       go_roundw
       case rel=>exact ⟨j+1,by omega,by go_num,Lib.hid ⟨b,true,HSK.out _ _ _ HSS.out⟩⟩
       case measure=>have:=HN.out;simp [intOf];omega
     | false =>
       have HC:=HST.out j hlt b wr HSS.out
       have hcf:=HCF.out j hlt wr
       generalize fs[j].1=fj at hcw HC hcf
       generalize fs[j].2=cj at hcw HC hcf
       have HCC:=Lib.hid HC
       clear HC
       go_wp2_with fail
       clear hcf
       refine HCC.out.mono ?_
       rintro e w1 ⟨rfl,h1⟩
       have H1:=Lib.hid h1
       clear h1
       go_wp2_with fail
       go_roundw
       case rel=>exact ⟨j+1,by omega,by go_num,H1⟩
       case measure=>have:=HN.out;simp [intOf];omega
   · have hjl:j=fs.length:=by omega
     subst hjl
     clear hw
     obtain rfl:=HBB.out.1
     cases bad with
     | true =>
       go_wp2_with fail
       go_ret
       exact ⟨b,true,HSS.out,rfl⟩
     | false =>
       have hE:((b.length:Int) == 0)=b.isEmpty:=by cases b <;> simp;omega
       have HE:=Lib.hid hE
       clear hE
       go_wp2_with fail
       go_ret
       refine ⟨b,false,HSS.out,?_⟩
       rw [HE.out];rfl
end
def OwB1 (B:Nat) (w:World) (a:Option Addr) (m c:Nat) (l:List UInt8):Prop:=m=l.length∧w.ownsRow B 5 1 (.slice a m c) m (bcells l)
theorem OwB1.isB {B:Nat} {w:World} {a:Option Addr} {m c:Nat} {l:List UInt8} (h:OwB1 B w a m c l):IsB w a m c l:=isB_of_owns h.2 h.1
theorem OwB1.low {B B':Nat} {w:World} {a:Option Addr} {m c:Nat} {l:List UInt8} (h:OwB1 B w a m c l) (hb:B'≤B):OwB1 B' w a m c l:=⟨h.1,owns_low h.2 hb⟩
theorem OwB1.below {B:Nat} {w w':World} {a:Option Addr} {m c:Nat} {l:List UInt8} (h:OwB1 B w a m c l) (hb:Below w.heap.size w w'):OwB1 B w' a m c l:=⟨h.1,owns_below h.2 hb⟩
theorem OwB1.nil (B:Nat) (w:World):OwB1 B w none 0 0 []:=⟨rfl,World.ownsRow_nil _ _ _ _⟩
theorem rput_v (a:Option Addr) (n c:Nat) (l:List UInt8) (v:Nat) (vI:Int) (k m:Nat) (kI:Int) (w:World) (hv:vI=(v:Int)) (hkI:kI=(k:Int)) (hl:IsB w a n c l) (hmm:l.length+k=m) (hm:l.length≤100000) (hvl:v<18446744073709551616) (hk:k≤8) :
   Calls Tryz.prog 87 #[.slice a n c,.int .u64 vI,.int .i64 kI] w fun e w' => ∃ a' c',e=.returned (.slice a' m c')∧Below w.heap.size w w'∧OwB1 w.heap.size w' a' m c' (l ++ leB v k):=by
 subst hv hkI hmm
 refine (rput_any a n c l v k w hl hm hvl hk).mono ?_
 rintro e w' ⟨a',c',rfl,h1,h2⟩
 exact ⟨a',c',rfl,h1,by simp [leB_length],h2⟩
theorem encL_255 (l:List Int) (h:l.length≤255):encL l=leB l.length 1 ++ encI (l.take l.length):=encL_cut l l.length (by rw [List.length_take];omega)
set_option maxRecDepth 100000 in
set_option maxHeartbeats 4000000 in
theorem rputlist_any (a:Option Addr) (n c:Nat) (b:List UInt8) (la:Option Addr) (ln lc:Nat) (l:List Int) (w:World) (hb:IsB w a n c b) (hm:b.length≤50000) (hI:IsI w la ln lc l) (hl:l.length≤255) :
   Calls Tryz.prog 74 #[.slice a n c,.slice la ln lc] w fun e w' => ∃ a' m c',e=.returned (.slice a' m c')∧Below w.heap.size w w'∧OwB1 w.heap.size w' a' m c' (b ++ encL l):=by
 obtain rfl:=hb.1
 obtain ⟨rfl,h1,h2,h3⟩:=hI
 have HC:Hid (∀ k (h:k<l.length),∃ b off,la=some ⟨b,off,none⟩∧b<w.heap.size∧w.cell? ⟨b,off+k,none⟩=some (.int .i64 l[k])):=Lib.hid (fun k hk=>by
   rcases h3 with ⟨h0,_⟩ | ⟨b,off,rfl,hlt,hc⟩
   · rw [h0] at hk;simp at hk
   · exact ⟨b,off,rfl,hlt,hc k hk⟩)
 have hk3:IntKind.u64.wrap (l.length:Int)=(l.length:Int):=by rw [IntKind.wrap_u64];omega
 have d1:decide ((255:Int)<(l.length:Int))=false:=decide_eq_false (by omega)
 have HE:=Lib.hid (encL_255 l hl)
 clear h1 h2 h3
 go_enter Tryz.func74,Tryz.ntmps74
 go_wp2_with fail
 refine (rput_v a b.length c b l.length _ 1 (b.length+1) _ w (by first | exact hk3 | with_reducible rfl) (by first | with_reducible rfl | rfl) hb rfl (by omega) (by omega) (by decide)).mono ?_
 rintro e w1 ⟨a1,c1,rfl,hb1,hi1⟩
 have H1:=Lib.hid hi1
 have B1:=Lib.hid hb1
 clear hi1 hb1 hb hk3
 go_wp2_with fail
 obtain ⟨N,hN⟩:∃ N,N=l.length:=⟨_,rfl⟩
 have HN:=Lib.hid hN
 clear hN
 go_loopw [6,5] (fun i s wr => ∃ j m c':Nat,∃ a',j≤l.length∧i=.int .i64 j∧s=.slice a' m c'∧Hid (m=b.length+1+4*j)∧Hid (Below w.heap.size w wr∧OwB1 w.heap.size wr a' m c' (b ++ (leB l.length 1 ++ encI (l.take j))))) (fun i _ _=>N - (intOf i).toNat)
 case atStart=>exact ⟨0,b.length+1,c1,a1,Nat.zero_le _,rfl,rfl,Lib.hid rfl,Lib.hid ⟨B1.out,by simpa [encI] using H1.out⟩⟩
 case round =>
   clear H1 B1
   obtain ⟨j,m,c',a',hj,rfl,rfl,HM,HS⟩:=hrel
   by_cases hlt:j<l.length
   · obtain ⟨lb,lo,rfl,hlb,hcl⟩:=HC.out j hlt
     have hcj:wr.cell? ⟨lb,lo+j,none⟩=some (.int .i64 l[j]):=(HS.out.1.cell (p:=⟨lb,lo+j,none⟩) hlb).trans hcl
     have HT:=Lib.hid (encI_take_succ l j hlt)
     have hz:=u64n_wrap l[j]
     have hzl:=u64n_lt l[j]
     generalize u64n l[j]=z at hz hzl HT
     generalize l[j]=lj at hcj hz hcl
     have HZ:=Lib.hid hz
     clear hz hcl
     go_wp2_with (first
       | (go_at_call 87;refine (rput_v a' m c' _ z _ 4 (m+4) _ wr HZ.out (by first | with_reducible rfl | rfl) HS.out.2.isB (by rw [← HS.out.2.1]) (by rw [← HS.out.2.1];have:=HM.out;omega) hzl (by decide)).mono ?_;rintro e w2 ⟨a2,c2,rfl,hb2,hi2⟩)
       | fail)
     have H2:Hid (Below w.heap.size w w2∧OwB1 w.heap.size w2 a2 (m+4) c2 (b ++ (leB l.length 1 ++ encI (l.take (j+1))))):=Lib.hid ⟨HS.out.1.trans (hb2.mono HS.out.1.size),by rw [HT.out];simpa using hi2.low HS.out.1.size⟩
     clear hb2 hi2
     go_wp2_with fail
     go_roundw
     case rel=>exact ⟨j+1,m+4,c2,a2,by omega,by go_num,rfl,Lib.hid (by have:=HM.out;omega),H2⟩
     case measure=>have:=HN.out;simp [intOf];omega
   · have hjk:j=l.length:=by omega
     subst hjk
     go_wp2_with fail
     go_ret
     exact ⟨a',m,c',rfl,HS.out.1,by rw [HE.out];exact HS.out.2⟩
theorem encB_655 (l:List UInt8) (h:l.length≤65535):encB l=leB l.length 2 ++ l:=by
 have:=encB_cut l l.length (by rw [List.length_take];omega)
 rwa [List.take_length] at this
set_option maxRecDepth 100000 in
set_option maxHeartbeats 2000000 in
theorem rputbytes_any (a:Option Addr) (n c:Nat) (b:List UInt8) (la:Option Addr) (ln lc:Nat) (l:List UInt8) (w:World) (hb:IsB w a n c b) (hm:b.length≤50000) (hl:IsB w la ln lc l) (h65:l.length≤65535) :
   Calls Tryz.prog 139 #[.slice a n c,.slice la ln lc] w fun e w' => ∃ a' m c',e=.returned (.slice a' m c')∧Below w.heap.size w w'∧OwB1 w.heap.size w' a' m c' (b ++ encB l):=by
 obtain rfl:=hb.1
 obtain rfl:=hl.1
 have hk3:IntKind.u64.wrap (l.length:Int)=(l.length:Int):=by rw [IntKind.wrap_u64];omega
 have d1:decide ((65535:Int)<(l.length:Int))=false:=decide_eq_false (by omega)
 have HE:=Lib.hid (encB_655 l h65)
 have HL:=Lib.hid hl
 clear hl
 go_enter Tryz.func139,Tryz.ntmps139
 go_wp2_with fail
 refine (rput_v a b.length c b l.length _ 2 (b.length+2) _ w (by first | exact hk3 | with_reducible rfl) (by first | with_reducible rfl | rfl) hb rfl (by omega) (by omega) (by decide)).mono ?_
 rintro e w1 ⟨a1,c1,rfl,hb1,hi1⟩
 have H1:=Lib.hid hi1
 have B1:=Lib.hid hb1
 clear hi1 hb1 hb hk3
 go_wp2_with (first
   | (at_builtin;refine wpList_append_any rowU8 rfl _ _ rfl w.heap.size _ (b.length+2) (bcells (b ++ leB l.length 2)) rfl H1.out.2 la l.length lc (bcells l) rfl (by rw [bcells_length];omega) (HL.out.below B1.out).at (bcells_one l) (by unfold maxLen;omega) (by omega) B1.out.size ?_;intro b2 c2 w2 hown2 hg2 hat2)
   | fail)
 have HB2:Hid (Below w.heap.size w w2):=Lib.hid (B1.out.grown hg2 B1.out.size (fun i hi=>Nat.le_trans (Nat.le_refl _) (owns_base H1.out.2 i hi)))
 have HO2:Hid (OwB1 w.heap.size w2 b2 (b.length+2+l.length) c2 (b ++ encB l)):=Lib.hid ⟨by rw [HE.out];simp [leB_length];omega,by rw [HE.out,← List.append_assoc,bcells_append (b ++ leB l.length 2)];exact hown2⟩
 clear hown2 hg2 hat2
 go_wp2_with fail
 go_ret
 exact ⟨b2,_,c2,rfl,HB2.out,HO2.out⟩
theorem rget_short (a:Option Addr) (m c k:Nat) (kI:Int) (l:List UInt8) (w:World) (hkI:kI=(k:Int)) (hl:IsB w a m c l) (hk1:1≤k) (hk8:k≤8) (hkl:l.length<k) :
   Calls Tryz.prog 142 #[.slice a m c,.int .i64 kI] w fun e w' => e=.returned (.tuple #[.int .u64 0,.int .i64 5])∧w=w':=by
 subst hkI
 obtain rfl:=hl.1
 have d1:decide ((k:Int)<1)=false:=by simp;omega
 have d2:decide ((8:Int)<(k:Int))=false:=by simp;omega
 have d3:decide ((l.length:Int)<(k:Int))=true:=by simp;omega
 clear hl
 go_enter Tryz.func142,Tryz.ntmps142
 go_wp2_with fail
 go_ret2
 exact ⟨rfl,rfl⟩
set_option maxHeartbeats 1000000 in
theorem rgetbytes_bad (a:Option Addr) (n c:Nat) (b:List UInt8) (w:World) (hb:IsB w a n c b) (h:decB b=none) :
   Calls Tryz.prog 141 #[.slice a n c] w fun e w' => e=.returned (.tuple #[.slice none 0 0,.int .i64 0,.int .i64 5])∧w=w':=by
 obtain rfl:=hb.1
 have hm:b.length≤9223372036854775807:=by have:=hb.2.1;have:=hb.2.2.1;unfold maxLen at this;omega
 by_cases hs:b.length<2
 · have HB:=Lib.hid hb
   clear hb h
   go_enter Tryz.func141,Tryz.ntmps141
   go_wp2_with fail
   refine (rget_short a _ c 2 _ b w rfl HB.out (by decide) (by decide) hs).mono ?_;rintro e w1 ⟨rfl,rfl⟩
   go_wp2_with fail
   go_ret3
   exact ⟨rfl,rfl⟩
 · have hq:numOf (b.take 2)<65536:=by
     have:=numOf_lt (b.take 2)
     have h4:(b.take 2).length=2:=by rw [List.length_take];omega
     rw [h4] at this
     exact this
   have hs2:b.length<2+numOf (b.take 2):=by
     unfold decB at h
     rw [if_neg hs] at h
     rcases Nat.lt_or_ge b.length (2+numOf (b.take 2)) with h' | h'
     · exact h'
     · rw [if_neg (by omega)] at h;cases h
   have HB:=Lib.hid hb
   clear hb h
   go_enter Tryz.func141,Tryz.ntmps141
   go_wp2_with fail
   refine (rget_any a _ c 2 _ b w rfl HB.out (by decide) (by decide) (by omega)).mono ?_;rintro e w1 ⟨rfl,rfl⟩
   generalize numOf (b.take 2)=q at hq hs2
   have hw1:IntKind.u64.wrap (b.length:Int)=(b.length:Int):=by rw [IntKind.wrap_u64];omega
   have hw2:IntKind.u64.wrap (2+(q:Int))=2+(q:Int):=by rw [IntKind.wrap_u64];omega
   have d2:decide ((b.length:Int)<2+(q:Int))=true:=by rw [decide_eq_true_iff];omega
   go_wp2_with fail
   go_ret3
   exact ⟨rfl,rfl⟩
set_option maxHeartbeats 2000000 in
theorem rgetbytes_ok (a:Option Addr) (n c:Nat) (b:List UInt8) (l r:List UInt8) (w:World) (hb:IsB w a n c b) (h:decB b=some (l,r)) :
   Calls Tryz.prog 141 #[.slice a n c] w fun e w' => ∃ a' c',e=.returned (.tuple #[.slice a' l.length c',.int .i64 ((2+l.length:Nat):Int),.int .i64 0])∧Below w.heap.size w w'∧OwB1 w.heap.size w' a' l.length c' l∧2+l.length≤b.length∧r=b.drop (2+l.length):=by
 obtain rfl:=hb.1
 have hm:c≤9223372036854775807:=by have:=hb.2.2.1;unfold maxLen at this;omega
 have hbc:=hb.2.1
 have hs:2≤b.length:=by
   unfold decB at h
   rcases Nat.lt_or_ge b.length 2 with h' | h'
   · rw [if_pos h'] at h;cases h
   · exact h'
 have hq:numOf (b.take 2)<65536:=by
   have:=numOf_lt (b.take 2)
   have h4:(b.take 2).length=2:=by rw [List.length_take];omega
   rw [h4] at this
   exact this
 have hs2:2+numOf (b.take 2)≤b.length:=by
   unfold decB at h
   rw [if_neg (by omega)] at h
   rcases Nat.lt_or_ge b.length (2+numOf (b.take 2)) with h' | h'
   · rw [if_pos h'] at h;cases h
   · exact h'
 have hdec:l=(b.drop 2).take (numOf (b.take 2))∧r=b.drop (2+numOf (b.take 2)):=by
   unfold decB at h
   rw [if_neg (by omega),if_neg (by omega)] at h
   obtain ⟨h1,h2⟩:=Prod.mk.inj (Option.some.inj h)
   exact ⟨h1.symm,h2.symm⟩
 obtain ⟨h1,h2⟩:=hdec
 have hll:l.length=numOf (b.take 2):=by rw [h1];simp;omega
 have HL:=Lib.hid hll
 have H1:=Lib.hid h1
 have H2:=Lib.hid h2
 have HB:=Lib.hid hb
 obtain ⟨ab,ao,rfl⟩:=hb.nonnil (by omega)
 clear hb h h1 h2 hll
 go_enter Tryz.func141,Tryz.ntmps141
 go_wp2_with fail
 refine (rget_any _ _ c 2 _ b w rfl HB.out (by decide) (by decide) (by omega)).mono ?_;rintro e w1 ⟨rfl,rfl⟩
 have hsub:=HB.out.sub 2 (numOf (b.take 2)) (c - 2) (by omega) (by omega) (by omega)
 rw [← H1.out] at hsub
 generalize numOf (b.take 2)=q at hq hs2 HL H2 hsub
 have hw1:IntKind.u64.wrap (b.length:Int)=(b.length:Int):=by rw [IntKind.wrap_u64];omega
 have hw2:IntKind.u64.wrap (2+(q:Int))=2+(q:Int):=by rw [IntKind.wrap_u64];omega
 have d2:decide ((b.length:Int)<2+(q:Int))=false:=by rw [decide_eq_false_iff_not];omega
 have HE:Hid (((2+q:Nat):Int)=2+(q:Int)):=Lib.hid (by push_cast;rfl)
 have HSB:=Lib.hid hsub
 clear hsub
 have hq2:(2:Int)+(q:Int)≤(c:Int):=by omega
 have hln:l.length=q:=HL.out
 have HQQ:Hid (2+q - 2=q):=Lib.hid (by omega)
 by_cases hc2:c=2
 · subst hc2
   obtain rfl:q=0:=by omega
   have HE1:Hid (l=[]):=Lib.hid (List.eq_nil_of_length_eq_zero HL.out)
   clear hln
   go_wp2_with fail
   go_ret3
   have:=HE1.out
   subst this
   exact ⟨none,0,rfl,Below.refl _ _,OwB1.nil _ _,hs2,H2.out⟩
 · go_wp2_with (first
     | (at_builtin;rw [HQQ.out];refine wpList_append_any rowU8 rfl (.const (.slice none 0 0)) (.tmp 25) rfl w.heap.size (.slice none 0 0) 0 [] rfl (World.ownsRow_nil _ _ _ _) _ q _ (bcells l) rfl (by rw [bcells_length];omega) HSB.out.at (bcells_one l) (by unfold maxLen;omega) (by omega) (Nat.le_refl _) ?_;intro b2 c2 w2 hown2 hg2 hat2)
     | fail)
   have HB2:Hid (Below w.heap.size w w2):=Lib.hid ((Below.refl _ _).grown hg2 (Nat.le_refl _) (by simp [Value.ownBlock]))
   have HO2:Hid (OwB1 w.heap.size w2 b2 l.length c2 l):=Lib.hid ⟨rfl,by
     have e:(0:Nat)+q=l.length:=by rw [HL.out];omega
     rw [e] at hown2
     simpa using hown2⟩
   have HE3:Hid ((0:Nat)+q=l.length):=Lib.hid (by rw [HL.out];omega)
   clear hown2 hg2 hat2
   go_wp2_with fail
   go_ret3
   exact ⟨b2,c2,by rw [HL.out,HE.out];first | rfl | simp,HB2.out,HO2.out,by rw [HL.out];exact hs2,by rw [HL.out];exact H2.out⟩
end Go.Proofs.YtgbikngicidbkaaGreatDoor
