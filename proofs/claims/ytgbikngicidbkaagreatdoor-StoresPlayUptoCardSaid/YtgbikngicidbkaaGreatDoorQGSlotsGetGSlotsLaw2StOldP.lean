/- The package slots: Get;conditions: those typed. -/
import Derived.Test.YtgbikngicidbkaaGreatDoorQGSlotsR
import Derived.Deep.RegionHeld3
import Derived.Test.YtgbikngicidbkaaGreatDoorQGSlicesBR1Put
import Derived.Test.YtgbikngicidbkaaGreatDoorQNumsG
import Derived.Test.YtgbikngicidbkaaGreatDoorQBytesF
namespace Go.Proofs.YtgbikngicidbkaaGreatDoor
open Go.RowKit
set_option linter.unusedVariables false
def Dsk.get (D:Dsk) (p:Int):Nat × List UInt8 × Int:=if p<0∨(D.secs.length:Int) - 12<p then (0,[],1) else ((newestW D p.toNat).1.1,(newestW D p.toNat).1.2,0)
theorem place_short (D:Dsk) (p:Nat) (h:(run5 D p 5).length=320):(place D p).2.length≤320:=by
 unfold place
 split
 · simp
 · split
   · simp;omega
   · simp
theorem newestW_short {w:World} {bd bl:Nat} {D:Dsk} (h:IsDisk w bd bl D) (p:Nat) (hp:p+12≤D.secs.length):(newestW D p).1.2.length≤320:=by
 have h1:=place_short D p (run5_length h p 5 (by omega))
 have h2:=place_short D (p+6) (run5_length h (p+6) 5 (by omega))
 unfold newestW
 split
 · exact h2
 · split
   · exact h1
   · simp
theorem owns_lower {w:World} {B B' e sz n:Nat} {v:Value} {xs:List Value} (h:w.ownsRow B e sz v n xs) (hB:B'≤B):w.ownsRow B' e sz v n xs:=by
 refine ⟨h.1,?_⟩
 rcases h.2 with h0 | ⟨g,cap,cur,hv,hb,h3⟩
 · exact .inl h0
 · exact .inr ⟨g,cap,cur,hv,Nat.le_trans hB hb,h3⟩
set_option maxHeartbeats 4000000 in
theorem get_own (bd bl:Nat) (D:Dsk) (p:Int) (w:World) (h:IsDisk w bd bl D) :
   Calls Tryz.prog 53 #[.pointer (some ⟨bd,0,none⟩),.int .i64 p] w fun e w' => ∃ a,e=.returned (.tuple #[.int .u32 (D.get p).1,.slice a (D.get p).2.1.length (D.get p).2.1.length,.int .i64 (D.get p).2.2])∧Below w.heap.size w w'∧IsB w' a (D.get p).2.1.length (D.get p).2.1.length (D.get p).2.1∧∃ yc,w'.ownsRow w.heap.size 5 1 (.slice a (D.get p).2.1.length yc) (D.get p).2.1.length (bcells (D.get p).2.1):=by
 have hm:=h.most
 have hp:=h.pos
 by_cases hr:p<0∨(D.secs.length:Int) - 12<p
 · have hpl:D.get p=(0,[],1):=if_pos hr
   rw [hpl]
   have d2:decide (¬ (p<0∨(D.secs.length:Int) - 12<p))=false:=decide_eq_false (fun h=>h hr)
   clear hpl hr
   go_enter Tryz.func53,Tryz.ntmps53
   go_wp2_with (first
     | (go_at_call 127;refine (no_disk bd bl D _ h).mono ?_;rintro e w' ⟨rfl,rfl⟩)
     | (go_at_call 128;refine (there_slot bd bl D p _ h).mono ?_;rintro e w' ⟨rfl,rfl⟩;rw [d2])
     | fail)
   go_ret3
   exact ⟨none,rfl,Below.refl _ _,IsB.nil _,0,World.ownsRow_nil _ _ _ _⟩
 have d2:decide (¬ (p<0∨(D.secs.length:Int) - 12<p))=true:=decide_eq_true hr
 obtain ⟨q,rfl⟩:∃ q:Nat,p=(q:Int):=⟨p.toNat,by omega⟩
 have hq:q+12≤D.secs.length:=by omega
 have hpl:D.get (q:Int)=((newestW D q).1.1,(newestW D q).1.2,0):=if_neg hr
 rw [hpl]
 have hsh:=newestW_short h q hq
 have HNEW:Hid (∀ w,IsDisk w bd bl D→Calls Tryz.prog 129 #[.pointer (some ⟨bd,0,none⟩),.int .i64 (q:Int)] w fun e w' => ∃ a c,e=.returned (.tuple #[.agg #[.int .u32 (newestW D q).1.1,.slice a (newestW D q).1.2.length c],.int .i64 (newestW D q).2])∧Below w.heap.size w w'∧IsB w' a (newestW D q).1.2.length c (newestW D q).1.2):=Lib.hid (fun w h=>newest_any bd bl D q (q:Int) w h rfl hq)
 generalize newestW D q=x at HNEW hsh
 obtain ⟨⟨xn,xb⟩,to⟩:=x
 dsimp only at HNEW hsh ⊢
 clear hpl hr hp
 go_enter Tryz.func53,Tryz.ntmps53
 go_wp2_with (first
   | (go_at_call 127;refine (no_disk bd bl D _ h).mono ?_;rintro e w' ⟨rfl,rfl⟩)
   | (go_at_call 128;refine (there_slot bd bl D _ _ h).mono ?_;rintro e w' ⟨rfl,rfl⟩;rw [d2])
   | fail)
 refine (HNEW.out w h).mono ?_;rintro e w1 ⟨xa,xc,rfl,hb1,hi1⟩
 dsimp only at hi1 ⊢
 have hbe:Below w.heap.size w (w1.alloc (.cells #[.int .u32 xn,.slice xa xb.length xc] 143)):=hb1.alloc hb1.size _
 have hv:=heap_new w1 (.cells #[.int .u32 xn,.slice xa xb.length xc] 143 (0,0))
 have hi2:=hi1.below ((Below.refl w1.heap.size w1).alloc (Nat.le_refl _) (.cells #[.int .u32 xn,.slice xa xb.length xc] 143 (0,0)))
 have hw1s:=hb1.size
 clear HNEW hi1 hb1
 go_wp2_with fail
 generalize w1.alloc (.cells #[.int .u32 xn,.slice xa xb.length xc] 143)=w2 at hbe hv hi2 ⊢
 have f0:w2.cell? ⟨w1.heap.size,0,none⟩=some (.int .u32 xn):=by rw [cell_of_block hv];rfl
 have f1:w2.cell? ⟨w1.heap.size,1,none⟩=some (.slice xa xb.length xc):=by rw [cell_of_block hv];rfl
 have hd0:=(Below.refl w2.heap.size w2).drew
 go_region_held3 (fun w' => w'.cell? ⟨w1.heap.size,0,none⟩=some (.int .u32 xn)∧w'.cell? ⟨w1.heap.size,1,none⟩=some (.slice xa xb.length xc)) (first
     | with_reducible exact ⟨cell_later hB3 f0,cell_later hB3 f1⟩
     | with_reducible exact ⟨cell_later hd0 f0,cell_later hd0 f1⟩) (first
   | (go_at_call 131;((with_reducible refine (sclone_any xa xb.length xc xb w2.drew (hi2.below hd0) (by omega)).mono ?_);rintro e w3 ⟨ya,yc,rfl,hb3,hi3,ho3⟩;have hB3:Below w2.heap.size w2 w3:=hd0.trans (hb3.mono hd0.size)))
   | (go_at_call 130;((refine (clip_any ya xb.length yc w3 hi3.2.1 hi3.2.2.1 hi3.noneCap).mono ?_);rintro e w4 ⟨rfl,rfl⟩))
   | fail)
 go_wp2_with fail
 go_ret3
 exact ⟨ya,rfl,hbe.trans (hB3.mono hbe.size),hi3.clip,yc,owns_lower ho3 hbe.size⟩
theorem get_any (bd bl:Nat) (D:Dsk) (p:Int) (w:World) (h:IsDisk w bd bl D) :
   Calls Tryz.prog 53 #[.pointer (some ⟨bd,0,none⟩),.int .i64 p] w fun e w' => ∃ a,e=.returned (.tuple #[.int .u32 (D.get p).1,.slice a (D.get p).2.1.length (D.get p).2.1.length,.int .i64 (D.get p).2.2])∧Below w.heap.size w w'∧IsB w' a (D.get p).2.1.length (D.get p).2.1.length (D.get p).2.1 :=
 (get_own bd bl D p w h).mono fun e w' ⟨a,h1,h2,h3,_⟩ => ⟨a,h1,h2,h3⟩
/- Plain laws on slots: what Put leaves;no program in sight. -/
theorem numOf_append (a b:List UInt8):numOf (a ++ b)=numOf a+256 ^ a.length*numOf b:=by
 induction a with
 | nil=>simp [numOf]
 | cons x a ih =>
   show numOf (a ++ b)*256+x.toNat=(numOf a*256+x.toNat)+256 ^ (a.length+1)*numOf b
   rw [ih,Nat.pow_succ,Nat.add_mul]
   generalize 256 ^ a.length=P
   generalize numOf b=B
   generalize numOf a=A
   have:P*B*256=P*256*B:=by rw [Nat.mul_assoc,Nat.mul_comm B,← Nat.mul_assoc]
   rw [this]
   exact Nat.add_right_comm _ _ _
theorem numOf_leB (v k:Nat):numOf (leB v k)=v % 256 ^ k:=by
 induction k with
 | zero=>simp [numOf,leB,Nat.mod_one]
 | succ k ih =>
   show numOf (leB v k ++ [UInt8.ofNat (v / 256 ^ k)])=_
   rw [numOf_append,ih,leB_length]
   have e1:numOf [UInt8.ofNat (v / 256 ^ k)]=v / 256 ^ k % 256:=by simp [numOf]
   rw [e1,Nat.pow_succ,Nat.mod_mul]
theorem mkB_take4 (m:Nat) (b:List UInt8) (x:List UInt8):(mkB m b ++ x).take 4=leB m 4:=by
 unfold mkB mk6
 simp only [List.append_assoc]
 rw [List.take_append_of_le_length (by rw [leB_length];omega),List.take_of_length_le (by rw [leB_length];omega)]
theorem mkB_drop4 (m:Nat) (b:List UInt8) (x:List UInt8):((mkB m b ++ x).drop 4).take 2=leB b.length 2:=by
 unfold mkB mk6
 simp only [List.append_assoc]
 have h4:(leB m 4).length=4:=leB_length _ _
 rw [List.drop_append_of_le_length (by omega),List.drop_eq_nil_of_le (by omega),List.nil_append,List.take_append_of_le_length (by rw [leB_length];omega),List.take_of_length_le (by rw [leB_length];omega)]
def Dsk.good (D:Dsk):Prop:=Secs D.secs
theorem secAt_64 {D:Dsk} (h:D.good) (i:Nat) (hi:i<D.secs.length):(secAt D i).length=64:=by
 have e1:secAt D i=D.secs[i]:=by unfold secAt;simp [hi]
 rw [e1];exact h _ (List.getElem_mem hi)
theorem run5_len {D:Dsk} (h:D.good) (p j:Nat) (hj:p+j≤D.secs.length):(run5 D p j).length=64*j:=by
 induction j with
 | zero=>rfl
 | succ j ih =>
   show (run5 D p j ++ secAt D (p+j)).length=_
   rw [List.length_append,ih (by omega),secAt_64 h _ (by omega)]
   omega
theorem run5_get {D:Dsk} (h:D.good) (p j:Nat) (hj:p+j≤D.secs.length) (x:Nat) (hx:x<64*j):(run5 D p j)[x]?=(secAt D (p+x / 64))[x % 64]?:=by
 induction j with
 | zero=>omega
 | succ j ih =>
   show (run5 D p j ++ secAt D (p+j))[x]?=_
   have hl:=run5_len h p j (by omega)
   by_cases h1:x<64*j
   · rw [List.getElem?_append_left (by omega),ih (by omega) h1]
   · rw [List.getElem?_append_right (by omega),hl,show x / 64=j by omega,show x - 64*j=x % 64 by omega]
theorem padS_get (b:List UInt8) (x:Nat) (hx:x<b.length):(padS b)[x]?=b[x]?:=by unfold padS;rw [List.getElem?_append_left hx]
theorem chunk_length (b:List UInt8) (j:Nat):(chunk b j).length≤64:=by unfold chunk;simp;omega
theorem run5_padded {D:Dsk} (h:D.good) (to:Nat) (b:List UInt8) (hb:b.length≤320) (ht:to+5≤D.secs.length) (hs:∀ i,i<secsOf b→secAt D (to+i)=padS (chunk b i)):(run5 D to 5).take b.length=b:=by
 have hl:=run5_len h to 5 ht
 apply List.ext_getElem?
 intro x
 by_cases hx:x<b.length
 · rw [List.getElem?_take,if_pos hx,run5_get h to 5 ht x (by omega),hs (x / 64) (by unfold secsOf;omega)]
   have hc:x % 64<(chunk b (x / 64)).length:=by unfold chunk;simp;omega
   rw [padS_get _ _ hc]
   unfold chunk
   rw [List.getElem?_take,if_pos (by omega),List.getElem?_drop,show 64*(x / 64)+x % 64=x by omega]
 · rw [List.getElem?_eq_none (by simp;omega),List.getElem?_eq_none (by omega)]
theorem place_written {D:Dsk} (h:D.good) (to m:Nat) (b:List UInt8) (hb:b.length≤320) (hm:m<4294967296) (hm0:0<m) (ht:to+5<D.secs.length) (hs:∀ i,i<secsOf b→secAt D (to+i)=padS (chunk b i)) (hk:secAt D (to+5)=mkB m b ++ z54):place D to=(m,b):=by
 have h1:numAt D to=m:=by unfold numAt;rw [hk,mkB_take4,numOf_leB];omega
 have h2:manyAt D to=b.length:=by unfold manyAt;rw [hk,mkB_drop4,numOf_leB];omega
 unfold place
 rw [h1,h2,if_neg (by omega),run5_padded h to b hb (by omega) hs,if_pos hk.symm]
theorem run5_same {D D':Dsk} (p j:Nat) (h:∀ i,i<j→secAt D' (p+i)=secAt D (p+i)):run5 D' p j=run5 D p j:=by
 induction j with
 | zero=>rfl
 | succ j ih =>
   show run5 D' p j ++ secAt D' (p+j)=run5 D p j ++ secAt D (p+j)
   rw [ih (fun i hi=>h i (by omega)),h j (by omega)]
theorem place_same {D D':Dsk} (p:Nat) (h:∀ i,i<6→secAt D' (p+i)=secAt D (p+i)):place D' p=place D p:=by
 have e5:=run5_same p 5 (fun i hi=>h i (by omega))
 have em:=h 5 (by omega)
 unfold place numAt manyAt
 rw [e5,em]
theorem newestW_same {D D':Dsk} (p:Nat) (h:∀ i,i<12→secAt D' (p+i)=secAt D (p+i)):newestW D' p=newestW D p:=by
 have e0:=place_same p (fun i hi=>h i (by omega))
 have e1:=place_same (D:=D) (D':=D') (p+6) (fun i hi=>by have:=h (6+i) (by omega);rw [show p+6+i=p+(6+i) by omega];exact this)
 unfold newestW
 rw [e0,e1]
def Dsk.room (D:Dsk) (j:Nat):Prop:=D.blown=false∧(D.left<0∨(j:Int)≤D.left)
def lessLeft (l:Int) (j:Nat):Int:=if l<0 then l else l - j
theorem lessLeft_add {l:Int} {j:Nat} (h:l<0∨((j+1:Nat):Int)≤l):lessLeft (lessLeft l j) 1=lessLeft l (j+1):=by
 unfold lessLeft
 by_cases h0:l<0
 · rw [if_pos h0,if_pos h0,if_pos h0]
 · rw [if_neg h0,if_neg h0,if_neg (by omega)];push_cast;omega
theorem secAt_set (D:Dsk) (n:Nat) (s:List UInt8) (l:Int) (bl:Bool) (wr:Int) (x:Nat):secAt { secs:=D.secs.set n s,left:=l,blown:=bl,writes:=wr } x=if x=n∧n<D.secs.length then s else secAt D x:=by
 unfold secAt
 by_cases h:x=n
 · subst h
   by_cases h2:x<D.secs.length
   · rw [if_pos ⟨rfl,h2⟩];simp [h2]
   · rw [if_neg (fun e=>h2 e.2)];simp [h2]
 · rw [if_neg (fun e=>h e.1)]
   simp only [List.getD_eq_getElem?_getD]
   rw [List.getElem?_set_ne (fun e=>h e.symm)]
theorem write_room {D:Dsk} {j:Nat} (h:D.room (j+1)) (n:Nat) (b:List UInt8) (hn:n<D.secs.length) (hb:b.length≤64) :
   (D.write (n:Int) b).1=0∧(D.write (n:Int) b).2.blown=false∧(D.write (n:Int) b).2.left=lessLeft D.left 1∧(D.write (n:Int) b).2.writes=D.writes+1∧secAt (D.write (n:Int) b).2 n=padS b∧∀ x,x≠n→secAt (D.write (n:Int) b).2 x=secAt D x:=by
 obtain ⟨h1,h2⟩:=h
 have e:D.write (n:Int) b=(0,{ D with secs:=D.secs.set n (padS b),left:=if 0<D.left then D.left - 1 else D.left,writes:=D.writes+1 }):=by
   unfold Dsk.write
   rw [if_neg (by omega),if_neg (by rw [h1];simp;push_cast at h2;omega)]
   rfl
 rw [e]
 refine ⟨rfl,h1,?_,rfl,?_,fun x hx => ?_⟩
 · dsimp only
   unfold lessLeft
   push_cast at h2
   split <;> split <;> omega
 · dsimp only
   rw [secAt_set,if_pos ⟨rfl,hn⟩]
 · dsimp only
   rw [secAt_set,if_neg (fun e=>hx e.1)]
theorem write_good {D:Dsk} (h:D.good) (n:Int) (b:List UInt8) (hb:b.length≤64):(D.write n b).2.good:=by
 unfold Dsk.write
 split
 · exact h
 · split
   · exact h
   · intro s hs
     rcases List.mem_or_eq_of_mem_set hs with h' | rfl
     · exact h s h'
     · exact padS_length b hb
theorem write_far (D:Dsk) (n:Nat) (b:List UInt8) (x:Nat) (hx:x≠n):secAt (D.write (n:Int) b).2 x=secAt D x:=by
 unfold Dsk.write
 split
 · rfl
 · split
   · rfl
   · dsimp only
     rw [show ((n:Int)).toNat=n from rfl,secAt_set,if_neg (fun e=>hx e.1)]
theorem wrs_good {D:Dsk} (h:D.good) (to:Nat) (b:List UInt8) (j:Nat):(wrs D to b j).2.good:=by
 induction j with
 | zero=>exact h
 | succ j ih =>
   show (if (wrs D to b j).1≠0 then _ else _:Int × Dsk).2.good
   split
   · exact ih
   · exact write_good ih _ _ (chunk_length _ _)
theorem wrs_far (D:Dsk) (to:Nat) (b:List UInt8) (j:Nat) (x:Nat) (hx:x<to∨to+j≤x):secAt (wrs D to b j).2 x=secAt D x:=by
 induction j with
 | zero=>rfl
 | succ j ih =>
   show secAt (if (wrs D to b j).1≠0 then _ else _:Int × Dsk).2 x=_
   split
   · exact ih (by omega)
   · rw [write_far _ _ _ _ (by omega)];exact ih (by omega)
theorem wrs_room {D:Dsk} (to:Nat) (b:List UInt8) (j:Nat) (hr:D.room j) (ht:to+j≤D.secs.length) :
   (wrs D to b j).1=0∧(wrs D to b j).2.blown=false∧(wrs D to b j).2.left=lessLeft D.left j∧(wrs D to b j).2.writes=D.writes+j∧∀ i,i<j→secAt (wrs D to b j).2 (to+i)=padS (chunk b i):=by
 induction j with
 | zero=>exact ⟨rfl,hr.1,by unfold lessLeft;split <;> simp [wrs],by simp [wrs],fun i hi=>by omega⟩
 | succ j ih =>
   obtain ⟨a1,a2,a3,a4,a5⟩:=ih ⟨hr.1,by have:=hr.2;push_cast at this;omega⟩ (by omega)
   have e:wrs D to b (j+1)=(wrs D to b j).2.write ((to+j:Nat):Int) (chunk b j):=if_neg (fun h=>h a1)
   have hr':(wrs D to b j).2.room 1:=⟨a2,by rw [a3];unfold lessLeft;have:=hr.2;push_cast at this;split <;> omega⟩
   obtain ⟨b1,b2,b3,b4,b5,b6⟩:=write_room (j:=0) hr' (to+j) (chunk b j) (by rw [wrs_len];omega) (chunk_length _ _)
   rw [e]
   refine ⟨b1,b2,by rw [b3,a3];exact lessLeft_add hr.2,by rw [b4,a4];push_cast;omega,fun i hi => ?_⟩
   by_cases hij:i=j
   · subst hij;exact b5
   · rw [b6 _ (by omega)];exact a5 i (by omega)
/- Layer 1's lists as bytes,and back: plain Lean;conditions: those typed. -/
def u64n (z:Int):Nat:=(IntKind.u64.wrap z).toNat
def encI:List Int→List UInt8
 | []=>[]
 | z :: l=>leB (u64n z) 4 ++ encI l
def encL (l:List Int):List UInt8:=leB (l.take 255).length 1 ++ encI (l.take 255)
def encB (l:List UInt8):List UInt8:=leB (l.take 65535).length 2 ++ l.take 65535
theorem encI_length (l:List Int):(encI l).length=4*l.length:=by
 induction l with
 | nil=>rfl
 | cons z l ih=>simp only [encI,List.length_append,leB_length,ih,List.length_cons];omega
theorem encI_append (l m:List Int):encI (l ++ m)=encI l ++ encI m:=by
 induction l with
 | nil=>rfl
 | cons z l ih=>simp only [List.cons_append,encI,ih,List.append_assoc]
theorem encI_snoc (l:List Int) (z:Int):encI (l ++ [z])=encI l ++ leB (u64n z) 4:=by
 rw [encI_append];simp [encI]
theorem encL_length (l:List Int):(encL l).length=1+4*(l.take 255).length:=by
 unfold encL;rw [List.length_append,leB_length,encI_length]
theorem encB_length (l:List UInt8):(encB l).length=2+(l.take 65535).length:=by
 unfold encB;rw [List.length_append,leB_length]
def decN (k:Nat) (b:List UInt8):Option (Nat × List UInt8):=if b.length<k then none else some (numOf (b.take k),b.drop k)
def decI:Nat→List UInt8→List Int
 | 0,_=>[]
 | n+1,b=>(numOf (b.take 4):Int) :: decI n (b.drop 4)
def decL:List UInt8→Option (List Int × List UInt8)
 | []=>none
 | x :: t=>if t.length<4*x.toNat then none else some (decI x.toNat t,t.drop (4*x.toNat))
def decB (b:List UInt8):Option (List UInt8 × List UInt8) :=
 if b.length<2 then none else if b.length<2+numOf (b.take 2) then none else some ((b.drop 2).take (numOf (b.take 2)),b.drop (2+numOf (b.take 2)))
theorem decN_leB (v k:Nat) (r:List UInt8):decN k (leB v k ++ r)=some (v % 256 ^ k,r):=by
 unfold decN
 rw [if_neg (by rw [List.length_append,leB_length];omega)]
 rw [List.take_append_of_le_length (by rw [leB_length];exact Nat.le_refl _),List.take_of_length_le (by rw [leB_length];exact Nat.le_refl _),numOf_leB]
 rw [List.drop_append_of_le_length (by rw [leB_length];exact Nat.le_refl _),List.drop_eq_nil_of_le (by rw [leB_length];exact Nat.le_refl _),List.nil_append]
theorem decI_length (n:Nat) (b:List UInt8):(decI n b).length=n:=by
 induction n generalizing b with
 | zero=>rfl
 | succ n ih=>simp [decI,ih]
theorem decI_get (n:Nat) (b:List UInt8) (i:Nat) (hi:i<n):(decI n b)[i]?=some (numOf ((b.drop (4*i)).take 4):Int):=by
 induction n generalizing b i with
 | zero=>omega
 | succ n ih =>
   cases i with
   | zero=>rfl
   | succ i =>
     show (decI n (b.drop 4))[i]?=_
     rw [ih _ i (by omega),List.drop_drop]
     congr 5;omega
theorem u64n_small {z:Int} (h0:0≤z) (h1:z<4294967296):(u64n z:Int)=z∧u64n z<4294967296:=by
 unfold u64n
 rw [IntKind.wrap_u64]
 omega
theorem decI_enc (l:List Int) (r:List UInt8) (h:∀ z ∈ l,0≤z∧z<4294967296):decI l.length (encI l ++ r)=l:=by
 induction l with
 | nil=>rfl
 | cons z l ih =>
   obtain ⟨h1,h2⟩:=h z List.mem_cons_self
   obtain ⟨e1,e2⟩:=u64n_small h1 h2
   have hl:=leB_length (u64n z) 4
   simp only [List.length_cons,encI,decI,List.append_assoc]
   rw [List.take_append_of_le_length (by omega),List.take_of_length_le (by omega),numOf_leB,List.drop_append_of_le_length (by omega),List.drop_eq_nil_of_le (by omega),List.nil_append,ih (fun z hz=>h z (List.mem_cons_of_mem _ hz))]
   have:u64n z % 256 ^ 4=u64n z:=Nat.mod_eq_of_lt (by simpa using e2)
   rw [this,e1]
theorem decL_enc (l:List Int) (r:List UInt8) (hl:l.length≤255) (h:∀ z ∈ l,0≤z∧z<4294967296):decL (encL l ++ r)=some (l,r):=by
 have ht:l.take 255=l:=List.take_of_length_le hl
 unfold encL
 rw [ht]
 have e1:leB l.length 1=[UInt8.ofNat l.length]:=by simp [leB]
 rw [e1]
 show decL (UInt8.ofNat l.length :: (encI l ++ r))=_
 have hn:(UInt8.ofNat l.length).toNat=l.length:=by simp;omega
 show (if (encI l ++ r).length<4*(UInt8.ofNat l.length).toNat then none else some (decI (UInt8.ofNat l.length).toNat (encI l ++ r),(encI l ++ r).drop (4*(UInt8.ofNat l.length).toNat)))=_
 rw [hn,if_neg (by rw [List.length_append,encI_length];omega),decI_enc l r h,List.drop_append_of_le_length (by rw [encI_length];exact Nat.le_refl _),List.drop_eq_nil_of_le (by rw [encI_length];exact Nat.le_refl _),List.nil_append]
theorem decB_enc (l:List UInt8) (r:List UInt8) (hl:l.length≤65535):decB (encB l ++ r)=some (l,r):=by
 have ht:l.take 65535=l:=List.take_of_length_le hl
 unfold encB
 rw [ht,List.append_assoc]
 have h2:=leB_length l.length 2
 have e1:(leB l.length 2 ++ (l ++ r)).take 2=leB l.length 2:=by rw [List.take_append_of_le_length (by omega),List.take_of_length_le (by omega)]
 have e2:(leB l.length 2 ++ (l ++ r)).drop 2=l ++ r:=by rw [List.drop_append_of_le_length (by omega),List.drop_eq_nil_of_le (by omega),List.nil_append]
 have e3:numOf (leB l.length 2)=l.length:=by rw [numOf_leB];exact Nat.mod_eq_of_lt (by omega)
 unfold decB
 rw [e1,e3,if_neg (by rw [List.length_append];omega),if_neg (by rw [List.length_append,List.length_append];omega),e2,← List.drop_drop,e2]
 rw [List.take_append_of_le_length (Nat.le_refl _),List.take_of_length_le (Nat.le_refl _),List.drop_append_of_le_length (Nat.le_refl _),List.drop_eq_nil_of_le (Nat.le_refl _),List.nil_append]
/- What a store keeps,as bytes,and back: a config,a phase,a record: plain Lean;conditions: those typed. -/
def encBs:List (List UInt8)→List UInt8
 | []=>[]
 | b :: l=>encB b ++ encBs l
theorem encBs_append (l m:List (List UInt8)):encBs (l ++ m)=encBs l ++ encBs m:=by
 induction l with
 | nil=>rfl
 | cons z l ih=>simp only [List.cons_append,encBs,ih,List.append_assoc]
def decBs:Nat→List UInt8→Option (List (List UInt8) × List UInt8)
 | 0,b=>some ([],b)
 | n+1,b=>match decB b with
   | none=>none
   | some (x,r)=>match decBs n r with
     | none=>none
     | some (l,r2)=>some (x :: l,r2)
theorem decBs_enc (l:List (List UInt8)) (r:List UInt8) (h:∀ x ∈ l,x.length≤65535):decBs l.length (encBs l ++ r)=some (l,r):=by
 induction l with
 | nil=>rfl
 | cons x l ih =>
   simp only [List.length_cons,encBs,List.append_assoc,decBs]
   rw [decB_enc x _ (h x List.mem_cons_self)]
   dsimp only
   rw [ih (fun y hy=>h y (List.mem_cons_of_mem _ hy))]
structure StC where
 r:List Int
 s:List (List UInt8)
 a:List UInt8
 u:List UInt8
 t:Nat
def StC.enc (c:StC):List UInt8:=encL c.r ++ (leB c.s.length 1 ++ (encBs (c.s ++ [c.a,c.u]) ++ leB c.t 8))
def decC (b:List UInt8):Option StC :=
 match decL b with
 | none=>none
 | some (r,b1)=>match decN 1 b1 with
   | none=>none
   | some (n,b2)=>match decBs n b2 with
     | none=>none
     | some (s,b3)=>match decB b3 with
       | none=>none
       | some (a,b4)=>match decB b4 with
         | none=>none
         | some (u,b5)=>match decN 8 b5 with
           | none=>none
           | some (t,b6)=>if b6=[] then some ⟨r,s,a,u,t⟩ else none
def okV (l:List Int) (items:Nat):Prop:=1≤items∧items≤8∧l.length=items∧∀ z ∈ l,0≤z∧z≤1000000
instance (l:List Int) (items:Nat):Decidable (okV l items):=by unfold okV;infer_instance
structure StC.may (c:StC):Prop where
 r:okV c.r c.r.length
 s:1≤c.s.length∧c.s.length≤8
 e:∀ x ∈ c.s,1≤x.length∧x.length≤16
 a:1≤c.a.length∧c.a.length≤16
 u:1≤c.u.length∧c.u.length≤16
 t:c.t≤1099511627776
theorem decC_enc (c:StC) (h:c.may):decC c.enc=some c:=by
 obtain ⟨⟨_,h8,_,hv⟩,⟨_,hs⟩,he,⟨_,ha⟩,⟨_,hu⟩,ht⟩:=h
 unfold decC StC.enc
 rw [decL_enc c.r _ (by omega) (fun z hz=>by have:=hv z hz;omega)]
 dsimp only
 rw [decN_leB]
 dsimp only
 rw [Nat.mod_eq_of_lt (show c.s.length<256 ^ 1 by omega),encBs_append,List.append_assoc,decBs_enc c.s _ (fun x hx=>by have:=he x hx;omega)]
 dsimp only
 simp only [encBs,List.append_nil,List.append_assoc]
 rw [decB_enc c.a _ (by omega)]
 dsimp only
 rw [decB_enc c.u _ (by omega)]
 dsimp only
 have:=decN_leB c.t 8 []
 rw [List.append_nil] at this
 rw [this]
 dsimp only
 rw [if_pos rfl,Nat.mod_eq_of_lt (show c.t<256 ^ 8 by omega)]
theorem encBs_length_le (l:List (List UInt8)) (h:∀ x ∈ l,x.length≤16):(encBs l).length≤18*l.length:=by
 induction l with
 | nil=>simp [encBs]
 | cons x l ih =>
   have h1:=h x List.mem_cons_self
   have h2:=ih fun y hy=>h y (List.mem_cons_of_mem _ hy)
   simp only [encBs,List.length_append,encB_length,List.length_cons,List.length_take]
   omega
theorem StC.enc_length (c:StC) (h:c.may):c.enc.length≤320:=by
 obtain ⟨⟨_,h8,_,hv⟩,⟨_,hs⟩,he,⟨_,ha⟩,⟨_,hu⟩,ht⟩:=h
 have h1:=encBs_length_le (c.s ++ [c.a,c.u]) (fun x hx=>by
   rcases List.mem_append.1 hx with hx | hx
   · exact (he x hx).2
   · simp at hx;rcases hx with rfl | rfl <;> assumption)
 unfold StC.enc
 simp only [List.length_append,leB_length,encL_length,List.length_take,List.length_cons,List.length_nil] at h1 ⊢
 omega
def encP (p:Nat) (l:List Int):List UInt8:=UInt8.ofNat p :: encL l
def decP (b:List UInt8):Option (Nat × List Int) :=
 match decN 1 b with
 | none=>none
 | some (p,b1)=>match decL b1 with
   | none=>none
   | some (l,b2)=>if b2=[] then some (p,l) else none
theorem decP_enc (p:Nat) (l:List Int) (hp:p<256) (hl:l.length≤255) (h:∀ z ∈ l,0≤z∧z<4294967296):decP (encP p l)=some (p,l):=by
 have e:encP p l=leB p 1 ++ encL l:=by simp [encP,leB]
 unfold decP
 rw [e,decN_leB]
 dsimp only
 have:=decL_enc l [] hl h
 rw [List.append_nil] at this
 rw [this]
 dsimp only
 rw [if_pos rfl,Nat.mod_eq_of_lt (by omega)]
structure StR where
 seq:Nat
 stands:Bool
 bid:List Int
def StR.enc (x:StR):List UInt8:=leB x.seq 4 ++ (leB (if x.stands then 1 else 0) 1 ++ encL x.bid)
def decR (b:List UInt8):Option (Nat × Nat × List Int) :=
 match decN 4 b with
 | none=>none
 | some (s,b1)=>match decN 1 b1 with
   | none=>none
   | some (h,b2)=>match decL b2 with
     | none=>none
     | some (l,b3)=>if b3=[] then some (s,h,l) else none
theorem decR_enc (x:StR) (hs:x.seq<4294967296) (hl:x.bid.length≤255) (h:∀ z ∈ x.bid,0≤z∧z<4294967296):decR x.enc=some (x.seq,if x.stands then 1 else 0,x.bid):=by
 unfold decR StR.enc
 rw [decN_leB]
 dsimp only
 rw [decN_leB]
 dsimp only
 have:=decL_enc x.bid [] hl h
 rw [List.append_nil] at this
 rw [this]
 dsimp only
 rw [if_pos rfl,Nat.mod_eq_of_lt (by omega),Nat.mod_eq_of_lt (by split <;> decide)]
/- Phases and orders of a store: plain Lean;no condition but those typed. -/
def ordC (n:Nat) (l:List Int):Bool:=decide (l.length=n) && (List.range n).all fun i=>decide ((i:Int) ∈ l)
def allC (n:Nat):List Int:=(List.range n).map Int.ofNat
theorem allC_length (n:Nat):(allC n).length=n:=by simp [allC]
def turnsC (n p:Nat) (l:List Int):Bool:=if p=2 then ordC n l else decide (p≤3) && l.isEmpty
def nextC (p q:Nat):Bool:=(p == 0 && (q == 1 || q == 3)) || (p == 1 && (q == 2 || q == 3))
def phaseC (n:Nat) (num:Nat) (b:List UInt8):Nat × List Int × Bool :=
 if num=0 then (0,[],true) else match decP b with
   | none=>(0,[],false)
   | some (p,l)=>if turnsC n p l then (p,l,true) else (0,[],false)
theorem phaseC_enc (n num p:Nat) (l:List Int) (hn:num≠0) (hp:p<256) (hl:l.length≤255) (h:∀ z ∈ l,0≤z∧z<4294967296) (ht:turnsC n p l=true):phaseC n num (encP p l)=(p,l,true):=by
 unfold phaseC
 rw [if_neg hn,decP_enc p l hp hl h]
 dsimp only
 rw [if_pos ht]
def fitsC (items:Nat) (x:StR):Bool:=if x.stands then decide (okV x.bid items) else x.bid.isEmpty
def recC (items:Nat) (num:Nat) (b:List UInt8):StR × Bool :=
 if num=0 then (⟨0,false,[]⟩,true) else match decR b with
   | none=>(⟨0,false,[]⟩,false)
   | some (s,h,l)=>if h≤1∧fitsC items ⟨s,h == 1,l⟩=true then (⟨s,h == 1,l⟩,true) else (⟨0,false,[]⟩,false)
theorem recC_enc (items num:Nat) (x:StR) (hn:num≠0) (hs:x.seq<4294967296) (hf:fitsC items x=true):recC items num x.enc=(x,true):=by
 have hb:x.bid.length≤255∧∀ z ∈ x.bid,0≤z∧z<4294967296:=by
   unfold fitsC at hf
   split at hf
   · have h:=of_decide_eq_true hf
     exact ⟨by have:=h.2.1;have:=h.2.2.1;omega,fun z hz=>by have:=h.2.2.2 z hz;omega⟩
   · have:x.bid=[]:=by simpa using hf
     rw [this];exact ⟨by simp,fun z hz=>by cases hz⟩
 unfold recC
 rw [if_neg hn,decR_enc x hs hb.1 hb.2]
 obtain ⟨s,st,bid⟩:=x
 cases st
 · dsimp only
   rw [if_pos ⟨by simp,hf⟩];rfl
 · dsimp only
   rw [if_pos ⟨by simp,hf⟩];rfl
def rawOk (D:Dsk) (p:Nat):Prop:=numAt D p≤(newestW D p).1.1∧numAt D (p+6)≤(newestW D p).1.1∧(numAt D (newestW D p).2=0∨numAt D (newestW D p).2<(newestW D p).1.1)
structure PutFull (D D':Dsk) (p m:Nat) (b:List UInt8):Prop where
 good:D'.good
 blown:D'.blown=false
 left:D'.left=lessLeft D.left (secsOf b+1)
 writes:D'.writes=D.writes+(secsOf b+1:Nat)
 len:D'.secs.length=D.secs.length
 new:(newestW D' p).1=(m,b)
 far:∀ x,x<p∨p+12≤x→secAt D' x=secAt D x
 raw:rawOk D p→rawOk D' p
theorem mkB_len (m:Nat) (b:List UInt8):(mkB m b).length≤64:=by rw [mkB_length];decide
theorem padS_mkB (m:Nat) (b:List UInt8):padS (mkB m b)=mkB m b ++ z54:=by unfold padS z54;rw [mkB_length]
theorem numAt_mk {D:Dsk} (to m:Nat) (b:List UInt8) (hm:m<4294967296) (hk:secAt D (to+5)=mkB m b ++ z54):numAt D to=m:=by unfold numAt;rw [hk,mkB_take4,numOf_leB];omega
theorem put_is {D:Dsk} (p m:Nat) (b:List UInt8) (hp:p+12≤D.secs.length) (hb:b.length≤320) (hgt:(newestW D p).1.1<m) :
   D.put (p:Int) m b=if (wrs D (newestW D p).2 b (secsOf b)).1≠0 then (8,(wrs D (newestW D p).2 b (secsOf b)).2) else
     if ((wrs D (newestW D p).2 b (secsOf b)).2.write ((newestW D p).2+5:Nat) (mkB m b)).1≠0 then (8,((wrs D (newestW D p).2 b (secsOf b)).2.write ((newestW D p).2+5:Nat) (mkB m b)).2) else
     (0,((wrs D (newestW D p).2 b (secsOf b)).2.write ((newestW D p).2+5:Nat) (mkB m b)).2):=by
 unfold Dsk.put
 rw [if_neg (by omega),if_neg (by omega),if_neg (by show ¬ m≤(newestW D p).1.1;omega)]
 rfl
theorem put_full {D:Dsk} (h:D.good) (p m:Nat) (b:List UInt8) (hp:p+12≤D.secs.length) (hb:b.length≤320) (hm:m<4294967296) (hgt:(newestW D p).1.1<m) (hr:D.room (secsOf b+1)) :
   (D.put (p:Int) m b).1=0∧PutFull D (D.put (p:Int) m b).2 p m b:=by
 have hput:=put_is p m b hp hb hgt
 have hto:=newestW_to D p
 have hnew:newestW D p=newestW D p:=rfl
 have hsec:secsOf b≤5:=by unfold secsOf;omega
 generalize hto2:(newestW D p).2=to at hput hto
 obtain ⟨a1,a2,a3,a4,a5⟩:=wrs_room (D:=D) to b (secsOf b) ⟨hr.1,by have:=hr.2;push_cast at this;omega⟩ (by omega)
 have afar:=wrs_far D to b (secsOf b)
 have agood:=wrs_good h to b (secsOf b)
 have alen:=wrs_len D to b (secsOf b)
 generalize wrs D to b (secsOf b)=W at hput a1 a2 a3 a4 a5 afar agood alen
 have hr1:W.2.room 1:=⟨a2,by rw [a3];unfold lessLeft;have:=hr.2;push_cast at this;split <;> omega⟩
 obtain ⟨b1,b2,b3,b4,b5,b6⟩:=write_room (j:=0) hr1 (to+5) (mkB m b) (by rw [alen];omega) (mkB_len m b)
 have bgood:=write_good agood ((to+5:Nat):Int) (mkB m b) (mkB_len m b)
 have blen:=W.2.write_len ((to+5:Nat):Int) (mkB m b)
 generalize W.2.write ((to+5:Nat):Int) (mkB m b)=V at hput b1 b2 b3 b4 b5 b6 bgood blen
 rw [if_neg (by rw [a1];simp),if_neg (by rw [b1];simp)] at hput
 rw [hput]
 refine ⟨rfl,?_⟩
 have hsec2:∀ i,i<secsOf b→secAt V.2 (to+i)=padS (chunk b i):=fun i hi=>by rw [b6 _ (by omega)];exact a5 i hi
 have hmk:secAt V.2 (to+5)=mkB m b ++ z54:=by rw [b5,padS_mkB]
 have hm0:0<m:=by omega
 have hpl:place V.2 to=(m,b):=place_written bgood to m b hb hm hm0 (by rw [blen,alen];omega) hsec2 hmk
 have hoth:∀ q,(q=p∨q=p+6)→q≠to→∀ i,i<6→secAt V.2 (q+i)=secAt D (q+i):=fun q hq hne i hi=>by
   rw [b6 _ (by omega),afar _ (by omega)]
 have hnum:∀ q,(q=p∨q=p+6)→(place D q).1≤(newestW D p).1.1:=fun q hq=>by
   unfold newestW
   split
   · rcases hq with rfl | rfl <;> dsimp only <;> omega
   · split
     · rcases hq with rfl | rfl <;> dsimp only <;> omega
     · rcases hq with rfl | rfl <;> dsimp only <;> omega
 have hnew2:newestW V.2 p=((m,b),if to=p then p+6 else p):=by
   rcases hto with rfl | rfl
   · have e6:=place_same (D:=D) (D':=V.2) (to+6) (hoth (to+6) (.inr rfl) (by omega))
     have:=hnum (to+6) (.inr rfl)
     unfold newestW
     rw [hpl,e6,if_neg (by dsimp only;omega),if_pos hm0,if_pos rfl]
   · have e0:=place_same (D:=D) (D':=V.2) p (hoth p (.inl rfl) (by omega))
     have:=hnum p (.inl rfl)
     unfold newestW
     rw [hpl,e0,if_pos (by dsimp only;omega),if_neg (by omega)]
 refine ⟨bgood,b2,?_,?_,by rw [blen,alen],by rw [hnew2],fun x hx => ?_,fun ⟨r1,r2,r3⟩ => ?_⟩
 · rw [b3,a3];exact lessLeft_add hr.2
 · rw [b4,a4];push_cast;omega
 · rw [b6 _ (by omega),afar _ (by omega)]
 · have ht:numAt V.2 to=m:=numAt_mk to m b hm hmk
   unfold rawOk
   rw [hnew2]
   dsimp only
   rcases hto with rfl | rfl
   · have e6:numAt V.2 (to+6)=numAt D (to+6):=by unfold numAt;rw [hoth (to+6) (.inr rfl) (by omega) 5 (by omega)]
     rw [if_pos rfl,ht,e6]
     exact ⟨Nat.le_refl _,by omega,.inr (by omega)⟩
   · have e0:numAt V.2 p=numAt D p:=by unfold numAt;rw [hoth p (.inl rfl) (by omega) 5 (by omega)]
     rw [if_neg (by omega),ht,e0]
     exact ⟨by omega,Nat.le_refl _,.inr (by omega)⟩
theorem get_is {D:Dsk} (p:Nat) (hp:p+12≤D.secs.length):D.get (p:Int)=((newestW D p).1.1,(newestW D p).1.2,0):=if_neg (by omega)
def newD (n:Nat):Dsk:=⟨List.replicate n zsec,-1,false,0⟩
theorem newD_good (n:Nat):(newD n).good:=fun s hs=>by
 have:s=zsec:=List.eq_of_mem_replicate hs
 rw [this];exact zsec_length
theorem newD_len (n:Nat):(newD n).secs.length=n:=by simp [newD]
theorem newD_numAt (n p:Nat):numAt (newD n) p=0:=by
 unfold numAt secAt newD
 by_cases h:p+5<n
 · have:(List.replicate n zsec).getD (p+5) []=zsec:=by simp [h]
   rw [this];rfl
 · have:(List.replicate n zsec).getD (p+5) []=[]:=by simp [h]
   rw [this];rfl
theorem newD_place (n p:Nat):place (newD n) p=(0,[]):=if_pos (.inl (newD_numAt n p))
theorem newD_newest (n p:Nat):newestW (newD n) p=((0,[]),p):=by
 unfold newestW
 rw [newD_place,newD_place]
 rfl
theorem newD_raw (n p:Nat):rawOk (newD n) p:=by
 unfold rawOk
 rw [newD_newest,newD_numAt,newD_numAt]
 exact ⟨Nat.le_refl _,Nat.le_refl _,.inl rfl⟩
/- The statements' helper lives of layer 19;no condition. -/
theorem PutFull.fine {D D':Dsk} {p m:Nat} {b:List UInt8} {k:Int} (h:PutFull D D' p m b) (hk:D.fine k) (hb:b.length≤320):D'.fine (k+6):=by
 have hs:secsOf b≤5:=by unfold secsOf;omega
 refine ⟨?_,?_,?_⟩
 · rw [h.writes];have:=hk.1;omega
 · rw [h.writes];have:=hk.2.1;omega
 · rw [h.left];have:=hk.2.2;unfold lessLeft;split <;> omega
theorem PutFull.free {D D':Dsk} {p m:Nat} {b:List UInt8} (h:PutFull D D' p m b) (hl:D.left = -1):D'.left = -1:=by rw [h.left,hl];rfl
theorem free_room {D:Dsk} (hB:D.blown=false) (hl:D.left = -1) (j:Nat):D.room j:=⟨hB,.inl (by omega)⟩
theorem newD_room (n j:Nat):(newD n).room j:=⟨rfl,.inl (by show (-1:Int)<0;decide)⟩
theorem newD_fine (n:Nat):(newD n).fine 0:=⟨by show (0:Int)≤0;decide,by show (0:Int)≤0;decide,by show (-1:Int)≤_;decide⟩
theorem new_disk (n:Nat) (nI:Int) (w:World) (hI:nI=(n:Int)) (h1:1≤n) (h2:n≤1024) :
   Calls Tryz.prog 6 #[.int .i64 nI] w fun e w' => ∃ bd bl,e=.returned (.tuple #[.pointer (some ⟨bd,0,none⟩),.int .i64 0])∧Below w.heap.size w w'∧w.heap.size≤bd∧w.heap.size≤bl∧IsDisk w' bd bl (newD n):=by
 subst hI
 exact new_good n w h1 h2
theorem frozen1 (w:World) (x:UInt8) (e:TypeId) (fz:Nat × Nat):IsB (w.alloc (.cells #[.int .u8 x.toNat] e fz)) (some ⟨w.heap.size,0,none⟩) 1 1 [x]:=IsB.fresh w [x] _ e fz rfl 1 1 rfl rfl (by simp [maxLen])
/- What a store on a disk keeps,and what its calls make of it: plain Lean;no condition but those typed. -/
theorem mem_of_all {α:Type} [DecidableEq α] (a:List α):∀ (l:List α),a.Nodup→(∀ x ∈ a,x ∈ l)→l.length≤a.length→∀ z ∈ l,z ∈ a:=by
 induction a with
 | nil=>intro l _ _ hl z hz;have:l=[]:=List.eq_nil_of_length_eq_zero (by simpa using hl);rw [this] at hz;cases hz
 | cons x a ih =>
   intro l hn hs hl z hz
   obtain ⟨hx,hn'⟩:=List.nodup_cons.1 hn
   have hxl:=hs x List.mem_cons_self
   by_cases hzx:z=x
   · rw [hzx];exact List.mem_cons_self
   refine List.mem_cons_of_mem _ (ih (l.erase x) hn' (fun y hy => ?_) ?_ z ?_)
   · have:y≠x:=fun e=>hx (e ▸ hy)
     exact (List.mem_erase_of_ne this).2 (hs y (List.mem_cons_of_mem _ hy))
   · rw [List.length_erase_of_mem hxl];simp at hl;omega
   · exact (List.mem_erase_of_ne hzx).2 hz
theorem ordC_bd {n:Nat} {l:List Int} (h:ordC n l=true):l.length=n∧∀ z ∈ l,0≤z∧z<n:=by
 unfold ordC at h
 rw [Bool.and_eq_true,decide_eq_true_eq,List.all_eq_true] at h
 obtain ⟨h1,h2⟩:=h
 refine ⟨h1,fun z hz => ?_⟩
 have hn:(allC n).Nodup:=by
   unfold allC
   refine List.Pairwise.map _ (fun a b hab e=>hab ?_) List.nodup_range
   exact Int.ofNat.inj e
 have:=mem_of_all (allC n) l hn (fun x hx=>by
   obtain ⟨i,hi,rfl⟩:=List.mem_map.1 hx
   exact of_decide_eq_true (h2 i hi)) (by rw [allC_length];omega) z hz
 obtain ⟨i,hi,rfl⟩:=List.mem_map.1 this
 have:=List.mem_range.1 hi
 exact ⟨Int.natCast_nonneg _,by show ((i:Nat):Int)<n;omega⟩
theorem turnsC_bd {n p:Nat} {l:List Int} (hn:n≤8) (h:turnsC n p l=true):p≤3∧l.length≤8∧∀ z ∈ l,0≤z∧z<4294967296:=by
 unfold turnsC at h
 split at h
 · obtain ⟨h1,h2⟩:=ordC_bd h
   exact ⟨by omega,by omega,fun z hz=>by have:=h2 z hz;omega⟩
 · rw [Bool.and_eq_true,decide_eq_true_eq,List.isEmpty_iff] at h
   obtain ⟨h1,rfl⟩:=h
   exact ⟨h1,by simp,fun z hz=>by cases hz⟩
theorem encP_len (p:Nat) (l:List Int) (h:l.length≤8):(encP p l).length≤34:=by
 unfold encP
 rw [List.length_cons,encL_length,List.length_take];omega
theorem StR.enc_len (x:StR) (h:x.bid.length≤8):x.enc.length≤38:=by
 unfold StR.enc
 rw [List.length_append,List.length_append,leB_length,leB_length,encL_length,List.length_take];omega
theorem secsOf_le {b:List UInt8} (h:b.length≤64):secsOf b≤1:=by unfold secsOf;omega
def phD (n:Nat) (D:Dsk):Nat × List Int × Bool:=phaseC n (D.get ((12:Nat):Int)).1 (D.get ((12:Nat):Int)).2.1
def rcD (items:Nat) (D:Dsk) (i:Nat):StR × Bool:=recC items (D.get ((12*(2+i):Nat):Int)).1 (D.get ((12*(2+i):Nat):Int)).2.1
def succ32 (k:Nat):Nat:=(k+1) % 4294967296
def turnD (n:Nat) (D:Dsk) (p:Nat) (l:List Int):Int × Dsk :=
 if turnsC n p l=false then (1,D) else if nextC (phD n D).1 p=false then (8,D) else D.put ((12:Nat):Int) (succ32 (D.get ((12:Nat):Int)).1) (encP p l)
def setD (n items:Nat) (D:Dsk) (who:Int) (x:StR):Int × Dsk :=
 if who<0∨(n:Int)≤who then (1,D) else if fitsC items x=false then (1,D) else if x.seq≤(rcD items D who.toNat).1.seq then (10,D) else
   D.put ((12*(2+who.toNat):Nat):Int) (succ32 (D.get ((12*(2+who.toNat):Nat):Int)).1) x.enc
theorem fitsC_bd {items:Nat} {x:StR} (h:fitsC items x=true):x.bid.length≤8∧∀ z ∈ x.bid,0≤z∧z<4294967296:=by
 unfold fitsC at h
 split at h
 · have h:=of_decide_eq_true h
   exact ⟨by have:=h.2.1;have:=h.2.2.1;omega,fun z hz=>by have:=h.2.2.2 z hz;omega⟩
 · have:x.bid=[]:=by simpa using h
   rw [this];exact ⟨by simp,fun z hz=>by cases hz⟩
structure StInv (c:StC) (D:Dsk) (j:Nat):Prop where
 good:D.good
 blown:D.blown=false
 fine:D.fine (6*j)
 len:12*(2+c.s.length)≤D.secs.length
 may:c.may
 cfg:(newestW D 0).1=(1,c.enc)
 num:(newestW D 12).1.1≤(phD c.s.length D).1∧(phD c.s.length D).1≤3
 numR:∀ i,i<c.s.length→(newestW D (12*(2+i))).1.1≤(rcD c.r.length D i).1.seq∧(rcD c.r.length D i).1.seq<4294967296
 raw:∀ i,i≤1+c.s.length→rawOk D (12*i)
 ph:(phD c.s.length D).2.2=true
 rc:∀ i,i<c.s.length→(rcD c.r.length D i).2=true
theorem StInv.n8 {c:StC} {D:Dsk} {j:Nat} (h:StInv c D j):1≤c.s.length∧c.s.length≤8:=h.may.s
theorem StInv.get {c:StC} {D:Dsk} {j:Nat} (h:StInv c D j) (i:Nat) (hi:i≤1+c.s.length):D.get ((12*i:Nat):Int)=((newestW D (12*i)).1.1,(newestW D (12*i)).1.2,0) :=
 get_is (12*i) (by have:=h.len;have:=h.n8;omega)
theorem StInv.ph_is {c:StC} {D:Dsk} {j:Nat} (h:StInv c D j):phD c.s.length D=phaseC c.s.length (newestW D (12*1)).1.1 (newestW D (12*1)).1.2:=by
 unfold phD
 have:=h.get 1 (by omega)
 rw [show (12*1:Nat)=12 from rfl] at this
 rw [this]
theorem StInv.rc_is {c:StC} {D:Dsk} {j:Nat} (h:StInv c D j) (i:Nat) (hi:i<c.s.length):rcD c.r.length D i=recC c.r.length (newestW D (12*(2+i))).1.1 (newestW D (12*(2+i))).1.2:=by
 unfold rcD
 rw [h.get (2+i) (by omega)]
theorem StInv.put {c:StC} {D:Dsk} {j:Nat} (h:StInv c D j) (i:Nat) (hi0:1≤i) (hi:i≤1+c.s.length) (hn:(newestW D (12*i)).1.1+1<4294967296) (b:List UInt8) (hb:b.length≤64) (hr:D.room (secsOf b+1)) :
   ∃ D',D.put ((12*i:Nat):Int) (succ32 (D.get ((12*i:Nat):Int)).1) b=(0,D')∧PutFull D D' (12*i) ((newestW D (12*i)).1.1+1) b∧D'.fine (6*(j+1))∧(∀ k,k≠i→newestW D' (12*k)=newestW D (12*k))∧(∀ k,k≤1+c.s.length→rawOk D' (12*k)):=by
 have h8:=h.n8
 have hlen:=h.len
 have hs:succ32 (D.get ((12*i:Nat):Int)).1=(newestW D (12*i)).1.1+1:=by
   rw [h.get i hi];unfold succ32;dsimp only;omega
 rw [hs]
 obtain ⟨a1,a2⟩:=put_full h.good (12*i) ((newestW D (12*i)).1.1+1) b (by omega) (by omega) (by omega) (by omega) hr
 have e:∀ k,k≠i→newestW (D.put ((12*i:Nat):Int) ((newestW D (12*i)).1.1+1) b).2 (12*k)=newestW D (12*k):=fun k hk=>newestW_same (12*k) (fun x hx=>a2.far _ (by omega))
 refine ⟨_,Prod.ext a1 rfl,a2,(a2.fine h.fine (by omega)).mono (by push_cast;omega),e,fun k hk => ?_⟩
 by_cases hki:k=i
 · subst hki;exact a2.raw (h.raw k hk)
 · have:=h.raw k hk
   unfold rawOk at this ⊢
   rw [e k hki]
   have en:∀ q,(q=12*k∨q=12*k+6)→numAt (D.put ((12*i:Nat):Int) ((newestW D (12*i)).1.1+1) b).2 q=numAt D q:=fun q hq=>by
     unfold numAt
     rw [a2.far _ (by rcases hq with rfl | rfl <;> omega)]
   rw [en _ (.inl rfl),en _ (.inr rfl),en _ (newestW_to D (12*k))]
   exact this
theorem StInv.turn {c:StC} {D:Dsk} {j:Nat} (h:StInv c D j) (q:Nat) (l:List Int) (hr:D.room 2) :
   ∃ e D',turnD c.s.length D q l=(e,D')∧StInv c D' (j+1)∧(∀ i,i<c.s.length→rcD c.r.length D' i=rcD c.r.length D i) ∧
     ((e=0∧turnsC c.s.length q l=true∧nextC (phD c.s.length D).1 q=true∧phD c.s.length D'=(q,l,true)∧(D.left = -1→D'.left = -1)) ∨
      (e≠0∧D'=D∧((turnsC c.s.length q l=false∧e=1)∨(turnsC c.s.length q l=true∧nextC (phD c.s.length D).1 q=false∧e=8)))):=by
 have hfm:D.fine (6*(j+1)):=h.fine.mono (by push_cast;omega)
 have hself:StInv c D (j+1):=⟨h.good,h.blown,hfm,h.len,h.may,h.cfg,h.num,h.numR,h.raw,h.ph,h.rc⟩
 unfold turnD
 by_cases ht:turnsC c.s.length q l=false
 · rw [if_pos ht]
   exact ⟨1,D,rfl,hself,fun _ _=>rfl,.inr ⟨by decide,rfl,.inl ⟨ht,rfl⟩⟩⟩
 · rw [if_neg ht]
   have ht':turnsC c.s.length q l=true:=by simpa using ht
   by_cases hx:nextC (phD c.s.length D).1 q=false
   · rw [if_pos hx]
     exact ⟨8,D,rfl,hself,fun _ _=>rfl,.inr ⟨by decide,rfl,.inr ⟨ht',hx,rfl⟩⟩⟩
   · rw [if_neg hx]
     have hx':nextC (phD c.s.length D).1 q=true:=by simpa using hx
     obtain ⟨hq,hl,hv⟩:=turnsC_bd h.n8.2 ht'
     have hb:=encP_len q l hl
     obtain ⟨D',p1,p2,p3,p4,p5⟩:=h.put 1 (by decide) (by omega) (by have:=h.num;rw [show (12*1:Nat)=12 from rfl];omega) (encP q l) (by omega) ⟨hr.1,by have:=hr.2;have:=secsOf_le (b:=encP q l) (by omega);omega⟩
     rw [show (12*1:Nat)=12 from rfl] at p1
     rw [p1]
     have hlen:12*(2+c.s.length)≤D'.secs.length:=by rw [p2.len];exact h.len
     have g12:D'.get ((12:Nat):Int)=((newestW D 12).1.1+1,encP q l,0):=by
       rw [get_is 12 (by have:=h.n8;omega)]
       have:=p2.new
       rw [show (12*1:Nat)=12 from rfl] at this
       rw [this]
     have hph:phD c.s.length D'=(q,l,true):=by
       unfold phD
       rw [g12]
       exact phaseC_enc _ _ _ _ (by omega) (by omega) (by omega) hv ht'
     have hrc:∀ i,i<c.s.length→rcD c.r.length D' i=rcD c.r.length D i:=fun i hi=>by
       unfold rcD
       rw [h.get (2+i) (by omega),get_is (12*(2+i)) (by have:=h.n8;omega),p4 (2+i) (by omega)]
     have hnx:(phD c.s.length D).1+1≤q:=by
       unfold nextC at hx'
       simp at hx'
       omega
     refine ⟨0,D',rfl,⟨p2.good,p2.blown,p3,hlen,h.may,by have:=p4 0 (by decide);rw [Nat.mul_zero] at this;rw [this];exact h.cfg,?_,fun i hi => ?_,p5,by rw [hph],fun i hi=>by rw [hrc i hi];exact h.rc i hi⟩,hrc,.inl ⟨rfl,ht',hx',hph,p2.free⟩⟩
     · have hnew:=p2.new
       rw [show (12*1:Nat)=12 from rfl] at hnew
       have:=h.num
       rw [hph,hnew]
       exact ⟨by dsimp only;omega,hq⟩
     · rw [p4 (2+i) (by omega),hrc i hi];exact h.numR i hi
theorem StInv.set {c:StC} {D:Dsk} {j:Nat} (h:StInv c D j) (who:Int) (x:StR) (hs:x.seq<4294967296) (hr:D.room 2) :
   ∃ e D',setD c.s.length c.r.length D who x=(e,D')∧StInv c D' (j+1)∧phD c.s.length D'=phD c.s.length D∧(∀ i,i<c.s.length→(i:Int)≠who→rcD c.r.length D' i=rcD c.r.length D i) ∧
     ((e=0∧0≤who∧who<c.s.length∧fitsC c.r.length x=true∧(rcD c.r.length D who.toNat).1.seq<x.seq∧rcD c.r.length D' who.toNat=(x,true)∧(D.left = -1→D'.left = -1)) ∨
      (e≠0∧D'=D∧(((who<0∨(c.s.length:Int)≤who)∧e=1)∨(0≤who∧who<c.s.length∧fitsC c.r.length x=false∧e=1)∨(0≤who∧who<c.s.length∧fitsC c.r.length x=true∧x.seq≤(rcD c.r.length D who.toNat).1.seq∧e=10)))):=by
 have hfm:D.fine (6*(j+1)):=h.fine.mono (by push_cast;omega)
 have hself:StInv c D (j+1):=⟨h.good,h.blown,hfm,h.len,h.may,h.cfg,h.num,h.numR,h.raw,h.ph,h.rc⟩
 unfold setD
 by_cases hw:who<0∨(c.s.length:Int)≤who
 · rw [if_pos hw]
   exact ⟨1,D,rfl,hself,rfl,fun _ _ _=>rfl,.inr ⟨by decide,rfl,.inl ⟨hw,rfl⟩⟩⟩
 rw [if_neg hw]
 by_cases hf:fitsC c.r.length x=false
 · rw [if_pos hf]
   exact ⟨1,D,rfl,hself,rfl,fun _ _ _=>rfl,.inr ⟨by decide,rfl,.inr (.inl ⟨by omega,by omega,hf,rfl⟩)⟩⟩
 have hf':fitsC c.r.length x=true:=by simpa using hf
 rw [if_neg hf]
 by_cases hq:x.seq≤(rcD c.r.length D who.toNat).1.seq
 · rw [if_pos hq]
   exact ⟨10,D,rfl,hself,rfl,fun _ _ _=>rfl,.inr ⟨by decide,rfl,.inr (.inr ⟨by omega,by omega,hf',hq,rfl⟩)⟩⟩
 rw [if_neg hq]
 obtain ⟨k,rfl⟩:∃ k:Nat,who=(k:Int):=⟨who.toNat,by omega⟩
 rw [Int.toNat_natCast] at hq ⊢
 have hk:k<c.s.length:=by omega
 obtain ⟨hl,hv⟩:=fitsC_bd hf'
 have hb:=x.enc_len hl
 obtain ⟨D',p1,p2,p3,p4,p5⟩:=h.put (2+k) (by omega) (by omega) (by have:=h.numR k hk;omega) x.enc (by omega) ⟨hr.1,by have:=hr.2;have:=secsOf_le (b:=x.enc) (by omega);omega⟩
 rw [p1]
 have hlen:12*(2+c.s.length)≤D'.secs.length:=by rw [p2.len];exact h.len
 have h8:=h.n8
 have hph:phD c.s.length D'=phD c.s.length D:=by
   unfold phD
   rw [get_is 12 (by have:=h.n8;omega),get_is 12 (by have:=h.n8;have:=h.len;omega)]
   have:=p4 1 (by omega)
   rw [show (12*1:Nat)=12 from rfl] at this
   rw [this]
 have hrk:rcD c.r.length D' k=(x,true):=by
   unfold rcD
   rw [get_is (12*(2+k)) (by omega),p2.new]
   exact recC_enc _ _ _ (by dsimp only;omega) hs hf'
 have hrc:∀ i,i<c.s.length→(i:Int)≠(k:Int)→rcD c.r.length D' i=rcD c.r.length D i:=fun i hi hne=>by
   unfold rcD
   rw [h.get (2+i) (by omega),get_is (12*(2+i)) (by omega),p4 (2+i) (by omega)]
 refine ⟨0,D',rfl,⟨p2.good,p2.blown,p3,hlen,h.may,by have:=p4 0 (by omega);rw [Nat.mul_zero] at this;rw [this];exact h.cfg,?_,fun i hi => ?_,p5,by rw [hph];exact h.ph,fun i hi => ?_⟩,hph,hrc,.inl ⟨rfl,by omega,by omega,hf',by omega,hrk,p2.free⟩⟩
 · have h1:=p4 1 (by omega)
   rw [show (12*1:Nat)=12 from rfl] at h1
   rw [hph,h1];exact h.num
 · by_cases hi2:i=k
   · subst hi2
     have:=h.numR i hi
     rw [hrk,p2.new]
     exact ⟨by dsimp only;omega,hs⟩
   · rw [p4 (2+i) (by omega),hrc i hi (by omega)];exact h.numR i hi
 · by_cases hi2:i=k
   · subst hi2;rw [hrk]
   · rw [hrc i hi (by omega)];exact h.rc i hi
theorem StInv.made' (N:Dsk) (c:StC) (h:c.may) (g1:N.good) (g2:12*(2+c.s.length)≤N.secs.length) (g3:∀ p,newestW N p=((0,[]),p)) (g4:∀ j,N.room j) (g5:N.fine 0) (g6:∀ p,rawOk N p) (g7:∀ p,numAt N p=0) (g8:N.left = -1):∃ D',N.put ((0:Nat):Int) 1 c.enc=(0,D')∧StInv c D' 1∧D'.left = -1:=by
 have hb:=c.enc_length h
 obtain ⟨a1,a2⟩:=put_full g1 0 1 c.enc (by omega) hb (by decide) (by rw [g3];decide) (g4 _)
 have e:∀ k,k≠0→newestW (N.put ((0:Nat):Int) 1 c.enc).2 (12*k)=((0,[]),12*k):=fun k hk=>by
   rw [newestW_same (D:=N) (12*k) (fun x hx=>a2.far _ (by omega)),g3]
 have hlen:12*(2+c.s.length)≤(N.put ((0:Nat):Int) 1 c.enc).2.secs.length:=by rw [a2.len];exact g2
 have h8:=h.s
 have hph:phD c.s.length (N.put ((0:Nat):Int) 1 c.enc).2=(0,[],true):=by
   unfold phD
   rw [get_is 12 (Nat.le_trans (by have:=h.s;omega) hlen)]
   have:=e 1 (by decide)
   rw [show (12*1:Nat)=12 from rfl] at this
   rw [this];rfl
 have hrc:∀ i,i<c.s.length→rcD c.r.length (N.put ((0:Nat):Int) 1 c.enc).2 i=(⟨0,false,[]⟩,true):=fun i hi=>by
   unfold rcD
   rw [get_is (12*(2+i)) (Nat.le_trans (by omega) hlen),e (2+i) (by omega)];rfl
 refine ⟨_,Prod.ext a1 rfl,⟨a2.good,a2.blown,(a2.fine g5 hb).mono (by decide),hlen,h,a2.new,?_,fun i hi => ?_,fun i hi => ?_,by rw [hph],fun i hi=>by rw [hrc i hi]⟩,a2.free g8⟩
 · have h1:=e 1 (by decide)
   rw [show (12*1:Nat)=12 from rfl] at h1
   rw [hph,h1];exact ⟨Nat.le_refl _,by decide⟩
 · rw [e (2+i) (by omega),hrc i hi];exact ⟨Nat.le_refl _,by decide⟩
 · by_cases hi0:i=0
   · subst hi0;exact a2.raw (g6 0)
   · unfold rawOk
     rw [e i hi0]
     have en:∀ q,(q=12*i∨q=12*i+6)→numAt (N.put ((0:Nat):Int) 1 c.enc).2 q=0:=fun q hq=>by
       have:numAt (N.put ((0:Nat):Int) 1 c.enc).2 q=numAt N q:=by
         unfold numAt
         rw [a2.far _ (by rcases hq with rfl | rfl <;> omega)]
       rw [this,g7]
     rw [en _ (.inl rfl),en _ (.inr rfl)]
     exact ⟨Nat.le_refl _,Nat.le_refl _,.inl rfl⟩
theorem StInv.madeN (n:Nat) (c:StC) (h:c.may) (hn:12*(2+c.s.length)≤n):∃ D',(newD n).put ((0:Nat):Int) 1 c.enc=(0,D')∧StInv c D' 1∧D'.left = -1 :=
 StInv.made' (newD n) c h (newD_good n) (by rw [newD_len];exact hn) (newD_newest n) (newD_room n) (newD_fine n) (newD_raw n) (newD_numAt n) rfl
theorem StInv.made (c:StC) (h:c.may):∃ D',(newD 200).put ((0:Nat):Int) 1 c.enc=(0,D')∧StInv c D' 1∧D'.left = -1 :=
 StInv.madeN 200 c h (by have:=h.s;omega)
/- A copy of a disk;what a put leaves of a disk;conditions: those typed. -/
/- What a copy of a store's disk keeps,whatever was under way when the disk let nothing more be;plain Lean;no condition but those typed. -/
theorem StInv.mono {c:StC} {D:Dsk} {j:Nat} (h:StInv c D j) {m:Nat} (hm:j≤m):StInv c D m :=
 ⟨h.good,h.blown,h.fine.mono (by omega),h.len,h.may,h.cfg,h.num,h.numR,h.raw,h.ph,h.rc⟩
end Go.Proofs.YtgbikngicidbkaaGreatDoor
