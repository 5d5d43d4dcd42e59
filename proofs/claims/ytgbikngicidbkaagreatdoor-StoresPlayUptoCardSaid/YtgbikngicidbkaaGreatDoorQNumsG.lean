/- The package nums: Get,over the library's Backward;conditions: those typed. -/
import Derived.Test.YtgbikngicidbkaaGreatDoorQAppend
import Derived.RangeFuncBox
import Derived.RangeFuncLeaves
import Derived.Shelf.Abstract
import Derived.OwnWalkIn
import Derived.TacticsInMore
import Derived.LoopNIn
import Derived.LoopIn
import Derived.Laws.BitsAllLaws
namespace Go.Proofs.YtgbikngicidbkaaGreatDoor
section
open Go.RowKit Go.Shelf
set_option linter.unusedVariables false
attribute [local go_sem] Oper.semAt_some
def bk (l:List UInt8) (k:Nat):List (Nat × UInt8):=(List.range k).map fun j=>(l.length - 1 - j,l.getD (l.length - 1 - j) 0)
theorem bk_succ (l:List UInt8) (k:Nat):bk l (k+1)=bk l k ++ [(l.length - 1 - k,l.getD (l.length - 1 - k) 0)]:=by simp [bk,List.range_succ]
theorem bk_length (l:List UInt8) (k:Nat):(bk l k).length=k:=by simp [bk]
def KB (n₀ Bs:Nat) (W W':World):Prop:=Below n₀ W W'∧∀ v,W.cell? ⟨Bs,0,none⟩=some v→W'.cell? ⟨Bs,0,none⟩=some v
theorem KB.t {n₀ Bs:Nat} {A B C:World} (h:KB n₀ Bs A B) (k:KB n₀ Bs B C):KB n₀ Bs A C:=⟨h.1.trans k.1,fun v hv=>k.2 v (h.2 v hv)⟩
theorem KB.b {n₀ Bs:Nat} {w:World} (hn:n₀≤w.heap.size) (hB:Bs<w.heap.size) (W:World) (l:Nat) (o o':Obj) (hl:w.heap.size≤l) (h:W.heap[l]?=some o) (h1:o.isCells=false) (h2:o.isWalk=false):KB n₀ Bs W (W.putObj l o') :=
 ⟨belowK_b hn W l o o' hl h h1 h2,fun v hv=>by
   rw [(belowK_b (n₀:=w.heap.size) (Nat.le_refl _) W l o o' hl h h1 h2).cell (p:=⟨Bs,0,none⟩) hB];exact hv⟩
set_option maxRecDepth 100000 in
set_option maxHeartbeats 2000000 in
theorem back1_in (F:Fence) (n:Nat) (h8:F.fn 214) (hro:F.round=none) (hn:1≤n) (l Bs n₀ b off cap:Nat) (zs:List UInt8) (hreach:zs.length≤140737488351232) (hb:b<n₀) (J Jx:List (Nat × UInt8)→World→Prop)
   (hY:∀ pre x W,J pre W→pre.length<zs.length→YieldAt F (n - 1) Tryz.prog l #[.int .i64 (x.1:Int),.int .u8 x.2.toNat] W fun e W' =>
     (e=.returned (.bool true)∧J (pre ++ [x]) W'∧KB n₀ Bs W W')∨(e=.returned (.bool false)∧Jx (pre ++ [x]) W'))
   (W:World) (hBs:W.cell? ⟨Bs,0,none⟩=some (.slice (some ⟨b,off,none⟩) zs.length cap)) (hc:∀ i (h:i<zs.length),W.cell? ⟨b,off+i,none⟩=some (.int .u8 zs[i].toNat)) (h0:J [] W) :
   CallsIn F n Tryz.prog 214 #[.func (.yield l) #[] #[],.pointer (some ⟨Bs,0,none⟩)] W fun e W' => (∃ v,e=.returned v) ∧
     ((∃ ys,ys=bk zs zs.length∧J ys W')∨(∃ pre,(∃ k,k≤zs.length∧pre=bk zs k)∧Jx pre W')):=by
 refine callsIn_of_wp Tryz.func214 rfl h8 ?_ hro
 simp only [Tryz.ntmps214,List.size_toArray,List.length_cons,List.length_nil,Nat.reduceAdd,Nat.reduceSub,Array.replicate_succ,Array.replicate_zero,List.push_toArray,List.append_toArray,List.nil_append,List.cons_append]
 gi_wp2
 gi_loopw [3] (fun i wr => ∃ k:Nat,k≤zs.length∧i=.int .i64 ((zs.length:Int) - 1 - k)∧J (bk zs k) wr∧KB n₀ Bs W wr)
   (fun i _=>(intOf i+1).toNat)
 case atStart=>exact ⟨0,Nat.zero_le _,by simp,h0,⟨Below.refl _ _,fun _ h=>h⟩⟩
 case round =>
   obtain ⟨k,hk,rfl,hJs,hnx⟩:=hrel
   have hBs':wr.cell? ⟨Bs,0,none⟩=some (.slice (some ⟨b,off,none⟩) zs.length cap):=hnx.2 _ hBs
   by_cases hlt:k<zs.length
   · obtain ⟨m,hm,hmk⟩:∃ m,m<zs.length∧m=zs.length - 1 - k:=⟨_,by omega,rfl⟩
     have hmI:(zs.length:Int) - 1 - (k:Int)=(m:Int):=by omega
     have hcx:wr.cell? ⟨b,off+m,none⟩=some (.int .u8 (zs[m]).toNat):=(hnx.1.cell (p:=⟨b,off+m,none⟩) hb).trans (hc m hm)
     obtain ⟨fn,tmps,assign,body,hy,hR⟩:=hY _ (m,zs.getD m 0) wr hJs (by rw [bk_length];exact hlt)
     have hg:zs.getD m 0=zs[m]:=by simp [hm]
     rw [hg] at hy hR
     have hbs:=bk_succ zs k
     rw [← hmk,hg] at hbs
     have HBS:=Lib.hid hbs
     have HMK:=Lib.hid hmk
     rw [hmI]
     dsimp only at hy
     clear hbs hmk hg hc
     gi_wp2
     refine hR.mono ?_
     rintro e W3 (⟨rfl,hJ3,hk3⟩ | ⟨rfl,hJx3⟩)
     · gi_wp2
       go_roundw
       case rel=>exact ⟨k+1,by omega,by have:=HMK.out;first | (simp;done) | (simp;omega),by rw [HBS.out];exact hJ3,hnx.t hk3⟩
       case measure=>first | (simp [intOf];done) | (simp [intOf];omega)
     · gi_wp2
       refine bodyPost_ret (results_none rfl _ _ _) rfl ?_
       exact ⟨⟨_,rfl⟩,.inr ⟨_,⟨k+1,by omega,HBS.out.symm⟩,hJx3⟩⟩
   · obtain rfl:k=zs.length:=by omega
     have hmI:(zs.length:Int) - 1 - (zs.length:Int) = -1:=by omega
     rw [hmI]
     gi_wp2
     go_end0
     exact ⟨⟨_,rfl⟩,.inl ⟨_,rfl,hJs⟩⟩
set_option maxRecDepth 100000 in
set_option maxHeartbeats 1000000 in
theorem back1_nil_in (F:Fence) (n:Nat) (h8:F.fn 214) (hro:F.round=none) (l Bs cap:Nat) (a:Option Addr) (J:List (Nat × UInt8)→World→Prop) (W:World) (hBs:W.cell? ⟨Bs,0,none⟩=some (.slice a 0 cap)) (h0:J [] W) :
   CallsIn F n Tryz.prog 214 #[.func (.yield l) #[] #[],.pointer (some ⟨Bs,0,none⟩)] W fun e W' => (∃ v,e=.returned v)∧J [] W':=by
 refine callsIn_of_wp Tryz.func214 rfl h8 ?_ hro
 simp only [Tryz.ntmps214,List.size_toArray,List.length_cons,List.length_nil,Nat.reduceAdd,Nat.reduceSub,Array.replicate_succ,Array.replicate_zero,List.push_toArray,List.append_toArray,List.nil_append,List.cons_append]
 gi_wp2
 gi_loopw [3] (fun i wr=>i=.int .i64 (-1)∧J [] wr) (fun _ _=>0)
 case atStart=>exact ⟨rfl,h0⟩
 case round =>
   obtain ⟨rfl,hJs⟩:=hrel
   gi_wp2
   go_end0
   exact ⟨⟨_,rfl⟩,hJs⟩
theorem back_in (F:Fence) (n:Nat) (h6:F.fn 208) (hro:F.round=none) (a:Option Addr) (len cap:Nat) (w:World) :
   CallsIn F n Tryz.prog 208 #[.slice a len cap] w fun e w' => e=.returned (.func (.func 214) #[] #[.pointer (some ⟨w.heap.size,0,none⟩)])∧w'=w.alloc (.cells #[.slice a len cap] 24):=by
 refine callsIn_of_wp Tryz.func208 rfl h6 ?_ hro
 simp only [Tryz.ntmps208,List.size_toArray,List.length_cons,List.length_nil,Nat.reduceAdd,Nat.reduceSub,Array.replicate_succ,Array.replicate_zero,List.push_toArray,List.append_toArray,List.nil_append,List.cons_append]
 gi_wp2
 go_ret
 exact ⟨rfl,rfl⟩
theorem back_stops (F:Fence) (n:Nat) (h8:F.fn 214) (hro:F.round=none) (hn:1≤n) (Bs n₀:Nat) (a:Option Addr) (m cap:Nat) (zs:List UInt8) (hreach:zs.length≤140737488351232) (w:World) (hBs:Bs<w.heap.size) (hn₀:n₀≤w.heap.size)
   (hc:w.cell? ⟨Bs,0,none⟩=some (.slice a m cap)) (hI:IsB w a m cap zs) (hab:∀ b off,a=some ⟨b,off,none⟩→b<n₀) :
   SeqStopsK F n Tryz.prog 214 #[.pointer (some ⟨Bs,0,none⟩)] (fun x:Nat × UInt8 => #[Value.int .i64 (x.1:Int),Value.int .u8 x.2.toNat]) (KB n₀ Bs) (fun ys=>ys=bk zs zs.length)
     (fun pre => ∃ k,k≤zs.length∧pre=bk zs k) zs.length w:=fun l J Jx W hW _ _ hY h0=>by
 have hc':=(hW.cell (p:=⟨Bs,0,none⟩) hBs).trans hc
 obtain ⟨rfl,h1,h2,⟨rfl,_⟩ | ⟨b,off,rfl,hb,hcs⟩⟩:=hI
 · exact (back1_nil_in F n h8 hro l Bs cap a J W hc' h0).mono fun e W' ⟨he,hj⟩ => ⟨he,.inl ⟨_,rfl,hj⟩⟩
 · exact back1_in F n h8 hro hn l Bs n₀ b off cap zs hreach (hab b off rfl) J Jx hY W hc' (fun i hi=>(hW.cell (p:=⟨b,off+i,none⟩) hb).trans (hcs i hi)) h0
def numOf (l:List UInt8):Nat:=l.foldr (fun x n=>n*256+x.toNat) 0
def accN (pre:List (Nat × UInt8)):Nat:=pre.foldl (fun n p=>n*256+p.2.toNat) 0
theorem accN_snoc (pre:List (Nat × UInt8)) (x:Nat × UInt8):accN (pre ++ [x])=accN pre*256+x.2.toNat:=by simp [accN]
theorem accN_lt_from (pre:List (Nat × UInt8)):∀ n m,n<256 ^ m→pre.foldl (fun n p=>n*256+p.2.toNat) n<256 ^ (m+pre.length):=by
 induction pre with
 | nil=>intro n m h;exact h
 | cons x pre ih =>
   intro n m h
   have hx:=x.2.toNat_lt
   have:=ih (n*256+x.2.toNat) (m+1) (by rw [Nat.pow_succ];omega)
   rw [List.foldl_cons,List.length_cons]
   rwa [show m+1+pre.length=m+(pre.length+1) by omega] at this
theorem accN_lt (pre:List (Nat × UInt8)):accN pre<256 ^ pre.length:=by
 have:=accN_lt_from pre 0 0 (by decide)
 rwa [Nat.zero_add] at this
theorem accN_bk (l:List UInt8):accN (bk l l.length)=numOf l:=by
 have h:(bk l l.length).map (·.2)=l.reverse:=by
   apply List.ext_getElem
   · simp [bk]
   · intro i h1 h2
     have hi:i<l.length:=by simpa using h2
     simp [bk]
     rw [List.getElem?_eq_getElem (by omega)]
     rfl
 have e:accN (bk l l.length)=((bk l l.length).map (·.2)).foldl (fun n x=>n*256+x.toNat) 0:=by unfold accN;rw [List.foldl_map]
 rw [e,h,List.foldl_reverse]
 rfl
theorem numOf_lt (l:List UInt8):numOf l<256 ^ l.length:=by rw [← accN_bk];have:=accN_lt (bk l l.length);rwa [bk_length] at this
end
end Go.Proofs.YtgbikngicidbkaaGreatDoor
