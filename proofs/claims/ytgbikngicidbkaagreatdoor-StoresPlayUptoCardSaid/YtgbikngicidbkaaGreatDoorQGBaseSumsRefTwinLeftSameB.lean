/- Lemmas of our own on memory and bytes;no condition. -/
import Derived.Test.YtgbikngicidbkaaGreatDoorRows
import Derived.WalkKit
import Derived.WalkSpells
import Derived.WalkLawsBesides
import Derived.Lib.Hide
import Derived.Lib.SlBytesConst
import Derived.Deep.QuietTactic
import Derived.BigQuiet
import Derived.ProofKit
import Derived.OpenShut
import Derived.ChangeOld
import Derived.Below
namespace Go.Proofs.YtgbikngicidbkaaGreatDoor
section
open Go.RowKit Go.ChangeShapes Go.WideShapes Go.ChangeAt
set_option linter.unusedVariables false
theorem u8_lt (c:UInt8):(c.toNat:Int)<256:=by have:=c.toNat_lt;omega
def IsB (w:World) (a:Option Addr) (n c:Nat) (l:List UInt8):Prop :=
 n=l.length∧l.length≤c∧c≤maxLen∧((l=[]∧(a=none→c=0))∨∃ b off,a=some ⟨b,off,none⟩∧b<w.heap.size∧∀ i (h:i<l.length),w.cell? ⟨b,off+i,none⟩=some (.int .u8 l[i].toNat))
theorem cell_of_block {w:World} {b:Nat} {C:Array Value} {e:TypeId} {fz:Nat × Nat} (h:w.heap[b]?=some (.cells C e fz)) (i:Nat):w.cell? ⟨b,i,none⟩=C[i]?:=by
 simp [World.cell?,h]
theorem heap_new (w:World) (o:Obj):(w.alloc o).heap[w.heap.size]?=some o:=by
 show (w.heap.push o)[w.heap.size]?=_
 simp
theorem IsB.nil (w:World):IsB w none 0 0 []:=⟨rfl,Nat.le_refl _,by decide,.inl ⟨rfl,fun _=>rfl⟩⟩
theorem IsB.fresh (w:World) (l:List UInt8) (C:Array Value) (e:TypeId) (fz:Nat × Nat) (hC:C=(l.map fun b=>Value.int .u8 b.toNat).toArray) (n c:Nat) (hn:n=l.length) (hc:c=l.length) (hm:l.length≤maxLen) :
   IsB (w.alloc (.cells C e fz)) (some ⟨w.heap.size,0,none⟩) n c l:=by
 subst hC
 refine ⟨hn,by omega,by omega,.inr ⟨_,_,rfl,by simp,fun i h => ?_⟩⟩
 rw [cell_of_block (heap_new w _)]
 simp [h]
theorem IsB.below {w w':World} {a:Option Addr} {n c:Nat} {l:List UInt8} (h:IsB w a n c l) (hb:Below w.heap.size w w'):IsB w' a n c l:=by
 obtain ⟨h1,h2,h3,h4 | ⟨b,off,rfl,hlt,hc⟩⟩:=h
 · exact ⟨h1,h2,h3,.inl h4⟩
 · exact ⟨h1,h2,h3,.inr ⟨b,off,rfl,Nat.lt_of_lt_of_le hlt hb.size,fun i hi=>(hb.cell (p:=⟨b,off+i,none⟩) hlt).trans (hc i hi)⟩⟩
def bcells (l:List UInt8):List Value:=l.map fun b=>Value.int .u8 b.toNat
theorem bcells_length (l:List UInt8):(bcells l).length=l.length:=by simp [bcells]
theorem bcells_snoc (l:List UInt8) (k:Nat) (h:k<l.length):bcells (l.take (k+1))=bcells (l.take k) ++ [.int .u8 l[k].toNat]:=by
 unfold bcells
 rw [List.take_succ_eq_append_getElem h,List.map_append];rfl
theorem one_at (w:World) (v:Value) (e:TypeId):∀ j u,[v][j]?=some u→(w.alloc (.cells #[v] e)).cell? ((⟨w.heap.size,0,none⟩:Addr).add j)=some u:=by
 intro j u h
 match j,h with
 | 0,h=>simp at h;subst h;simp [Addr.add]
theorem one_cell (v:Value) (h:v.oneCell'=true):∀ u ∈ [v],u.oneCell'=true:=by
 intro u hu;simp at hu;subst hu;exact h
theorem cells_of_owns {w:World} {B e g n c:Nat} {xs:List Value} (h:w.ownsRow B e 1 (.slice (some ⟨g,0,none⟩) n c) n xs) (i:Nat) (v:Value) (hv:xs[i]?=some v):w.cell? ⟨g,i,none⟩=some v:=by
 have:=h.cells (g:=g) rfl i v hv
 by_cases hi:i=0
 · subst hi;simpa [Addr.add] using this
 · simpa [Addr.add,hi] using this
theorem u8_of_int (zs:List Int) (h:∀ n ∈ zs,(Lit.int .u8 n).wf=true):∃ l:List UInt8,l.length=zs.length∧∀ i (hi:i<l.length),(l[i].toNat:Int)=zs.getD i 0:=by
 refine ⟨zs.map fun n=>UInt8.ofNat n.toNat,by simp,fun i hi => ?_⟩
 have hi':i<zs.length:=by simpa using hi
 have hw:=h zs[i] (List.getElem_mem hi')
 simp [Lit.wf,IntKind.min,IntKind.max,IntKind.signed,IntKind.bits] at hw
 simp [hi']
 omega
theorem isB_of_ints {W:World} {a:Option Addr} {m c:Nat} (x:Addr) (zs:List Int) (ha:a=some x) (hl:m≤c) (hm:c≤maxLen) (hz:zs.length=c)
   (hcell:∀ i,i<zs.length→W.cell? (x.add i)=some (.int .u8 (zs.getD i 0))) (hwz:∀ n ∈ zs,(Lit.int .u8 n).wf=true):∃ l,IsB W a m c l:=by
 subst ha
 by_cases h0:m=0
 · subst h0
   exact ⟨[],rfl,Nat.zero_le _,hm,.inl ⟨rfl,fun h=>by cases h⟩⟩
 obtain ⟨l,hll,hlv⟩:=u8_of_int zs hwz
 obtain ⟨b,off,spot⟩:=x
 have hc0:=hcell 0 (by omega)
 have hspot:spot=none:=by simpa [Addr.add] using World.cell?_spot hc0
 subst hspot
 refine ⟨l.take m,by simp;omega,by simp;omega,hm,.inr ⟨b,off,rfl,?_,fun i hi => ?_⟩⟩
 · have hb:=hc0
   simp only [Addr.add,World.cell?] at hb
   rcases Nat.lt_or_ge b W.heap.size with h | h
   · exact h
   · simp [Array.getElem?_eq_none h] at hb
 · have him:i<m:=by simp at hi;omega
   have:=hcell i (by omega)
   rw [← hlv i (by omega)] at this
   by_cases hi0:i=0
   · subst hi0;simpa [Addr.add] using this
   · simpa [Addr.add,hi0] using this
theorem isB_nil (W:World):IsB W none 0 0 []:=⟨rfl,Nat.le_refl _,by decide,.inl ⟨rfl,fun _=>rfl⟩⟩
/- The package sums: what On and Of return. -/
open Go.RowKit Go.ChangeShapes Go.WideShapes Go.ChangeAt
set_option linter.unusedVariables false
def stepN (s:Nat) (c:UInt8):Nat:=(s ^^^ c.toNat)*16777619 % 4294967296
def onN (s:Nat) (l:List UInt8):Nat:=l.foldl stepN s
theorem stepN_lt (s:Nat) (c:UInt8):stepN s c<4294967296:=Nat.mod_lt _ (by decide)
theorem step_eq (s:Nat) (c:UInt8) (hs:s<4294967296) :
   bits BinOp.xor IntKind.u32 (s:Int) (c.toNat:Int)*16777619 % 4294967296=(stepN s c:Int):=by
 have:=c.toNat_lt
 rw [u32_xor_nat s c.toNat hs (by omega)]
 unfold stepN;omega
set_option maxHeartbeats 400000 in
theorem step_any (b:Nat) (s:Nat) (c:UInt8) (w:World) (hs:s<4294967296) (hcell:w.cell? ⟨b,0,none⟩=some (.int .u32 s)) (hfr:w.frozen? ⟨b,0,none⟩=false) :
   Calls Tryz.prog 202 #[.pointer (some ⟨b,0,none⟩),.int .u8 c.toNat] w fun e w' => e=.returned (.tuple #[])∧w.setCell ⟨b,0,none⟩ (.int .u32 (stepN s c))=w':=by
 have h1:=u8_lt c
 have H:Hid _:=Lib.hid (step_eq s c hs)
 go_enter Tryz.func202,Tryz.ntmps202
 go_wp2
 go_end0
 exact ⟨rfl,by rw [H.out]⟩
theorem onN_take (n:Nat) (l:List UInt8) (k:Nat) (h:k<l.length):onN n (l.take (k+1))=stepN (onN n (l.take k)) l[k]:=by
 unfold onN
 rw [List.take_succ_eq_append_getElem h,List.foldl_append,List.foldl_cons,List.foldl_nil]
theorem onN_lt (n:Nat) (hn:n<4294967296) (l:List UInt8):onN n l<4294967296:=by
 unfold onN
 induction l generalizing n with
 | nil=>exact hn
 | cons c l ih=>exact ih _ (stepN_lt _ _)
set_option maxHeartbeats 400000 in
theorem on_some (b off cap:Nat) (n:Nat) (l:List UInt8) (w:World) (hn:n<4294967296) (hlen:l.length≤9223372036854775807) (hb:b<w.heap.size)
   (hc:∀ i (h:i<l.length),w.cell? ⟨b,off+i,none⟩=some (.int .u8 l[i].toNat)) :
   Calls Tryz.prog 188 #[.int .u32 n,.slice (some ⟨b,off,none⟩) l.length cap] w fun e w' => e=.returned (.int .u32 (onN n l))∧Below w.heap.size w w':=by
 go_enter Tryz.func188,Tryz.ntmps188
 go_wp2
 go_loopw [12] (fun i wr => ∃ k:Nat,k≤l.length∧i=.int .i64 k∧wr=w.alloc (Obj.cells #[.int .u32 (onN n (l.take k))] 230)) (fun i _=>l.length - (intOf i).toNat)
 case atStart=>exact ⟨0,Nat.zero_le _,rfl,rfl⟩
 case round =>
   obtain ⟨k,hk,rfl,rfl⟩:=hrel
   by_cases hlt:k<l.length
   · have hcell:=hc k hlt
     have hstep:=onN_take n l k hlt
     have hl:=onN_lt n hn (l.take k)
     have H:Hid _:=Lib.hid hstep
     clear hstep hc
     go_wp2_with (go_at_call 202;refine (step_any _ _ _ _ hl (by simp [go_sem]) (by simp [go_sem])).mono ?_;rintro e w' ⟨rfl,rfl⟩)
     go_roundw
     case rel=>exact ⟨k+1,by omega,by go_num,by rw [H.out]⟩
     case measure=>simp [intOf];omega
   · have hkk:k=l.length:=by omega
     subst hkk
     go_wp2
     go_ret
     refine ⟨?_,(Below.refl _ _).alloc (Nat.le_refl _) _⟩
     simp
theorem on_nil (a:Option Addr) (c n:Nat) (w:World) (hn:n<4294967296) :
   Calls Tryz.prog 188 #[.int .u32 n,.slice a 0 c] w fun e w' => e=.returned (.int .u32 n)∧Below w.heap.size w w':=by
 go_enter Tryz.func188,Tryz.ntmps188
 go_wp2
 go_loopw [12] (fun i wr=>i=.int .i64 0∧wr=w.alloc (Obj.cells #[.int .u32 n] 230)) (fun _ _=>0)
 case atStart=>exact ⟨rfl,rfl⟩
 case round =>
   obtain ⟨rfl,rfl⟩:=hrel
   go_wp2
   go_ret
   exact ⟨rfl,(Below.refl _ _).alloc (Nat.le_refl _) _⟩
theorem on_any (a:Option Addr) (m cap n:Nat) (l:List UInt8) (w:World) (hn:n<4294967296) (h:IsB w a m cap l) :
   Calls Tryz.prog 188 #[.int .u32 n,.slice a m cap] w fun e w' => e=.returned (.int .u32 (onN n l))∧Below w.heap.size w w':=by
 obtain ⟨rfl,h1,h2,⟨rfl,_⟩ | ⟨b,off,rfl,hb,hc⟩⟩:=h
 · exact on_nil a cap n w hn
 · exact on_some b off cap n l w hn (by unfold maxLen at h2;omega) hb hc
theorem of_any (a:Option Addr) (m cap:Nat) (l:List UInt8) (w:World) (h:IsB w a m cap l) :
   Calls Tryz.prog 189 #[.slice a m cap] w fun e w' => e=.returned (.int .u32 (onN 2166136261 l))∧Below w.heap.size w w':=by
 go_enter Tryz.func189,Tryz.ntmps189
 go_wp2_with (go_at_call 188;refine (on_any _ _ _ 2166136261 l _ (by decide) h).mono ?_;rintro e w' ⟨rfl,hb⟩)
 go_ret
 exact ⟨rfl,hb⟩
end
section
open Go.RowKit Go.ChangeShapes Go.WideShapes Go.ChangeAt
set_option linter.unusedVariables false
theorem split_xor (s:Nat) (c:UInt8):s - s % 256+((s % 256) ^^^ c.toNat)=s ^^^ c.toNat:=by
 have hc:=c.toNat_lt
 have h1:(s % 256) ^^^ c.toNat<256:=Nat.xor_lt_two_pow (n:=8) (Nat.mod_lt _ (by decide)) (by omega)
 have h2:(s ^^^ c.toNat) % 2 ^ 8=(s % 2 ^ 8) ^^^ (c.toNat % 2 ^ 8):=Nat.xor_mod_two_pow
 have h3:(s ^^^ c.toNat) / 2 ^ 8=(s / 2 ^ 8) ^^^ (c.toNat / 2 ^ 8):=Nat.xor_div_two_pow
 have h4:c.toNat / 2 ^ 8=0:=by omega
 have h5:c.toNat % 2 ^ 8=c.toNat:=by omega
 rw [h5] at h2
 rw [h4,Nat.xor_zero] at h3
 have h6:=Nat.div_add_mod (s ^^^ c.toNat) (2 ^ 8)
 rw [h2,h3] at h6
 have e:(2:Nat) ^ 8=256:=rfl
 rw [e] at h6
 omega
set_option maxHeartbeats 1000000 in
theorem rstep_any (s:Nat) (c:UInt8) (w:World) (hs:s<4294967296) :
   Calls Tryz.prog 210 #[.int .u32 s,.int .u8 c.toNat] w fun e w' => e=.returned (.int .u32 (stepN s c))∧w=w':=by
 have h1:=u8_lt c
 have hs':(s:Int)<4294967296:=by omega
 have hsp:=split_xor s c
 have hx0:(s % 256) ^^^ c.toNat<256:=Nat.xor_lt_two_pow (n:=8) (Nat.mod_lt _ (by decide)) (by have:=c.toNat_lt;omega)
 have hx:bits BinOp.xor IntKind.u8 ((s:Int) % 256) (c.toNat:Int)=(((s % 256) ^^^ c.toNat:Nat):Int):=by
   rw [← u8_xor_nat _ _ (Nat.mod_lt _ (by decide)) c.toNat_lt];rfl
 revert hx hsp hx0
 generalize (s % 256) ^^^ c.toNat=x
 intro hsp hx0 hx
 have hfin:((((s:Int) - s % 256+x)*16777619) % 4294967296:Int)=(stepN s c:Int):=by
   unfold stepN;rw [← hsp];omega
 have H:Hid _:=Lib.hid hfin
 clear hfin hsp
 have hx1:(x:Int)<256:=by omega
 go_enter Tryz.func210,Tryz.ntmps210
 go_wp2
 go_ret
 refine ⟨?_,rfl⟩
 rw [← H.out]
 show Ending.returned (.int _ _)=_
 congr 2
theorem ron_some (b off cap:Nat) (n:Nat) (l:List UInt8) (w:World) (hn:n<4294967296) (hlen:l.length≤9223372036854775807) (hb:b<w.heap.size)
   (hc:∀ i (h:i<l.length),w.cell? ⟨b,off+i,none⟩=some (.int .u8 l[i].toNat)) :
   Calls Tryz.prog 204 #[.int .u32 n,.slice (some ⟨b,off,none⟩) l.length cap] w fun e w' => e=.returned (.int .u32 (onN n l))∧w=w':=by
 go_enter Tryz.func204,Tryz.ntmps204
 go_wp2
 go_loop [0,5] (fun v i => ∃ k:Nat,k≤l.length∧i=.int .i64 k∧v=.int .u32 (onN n (l.take k))) (fun _ i=>l.length - (intOf i).toNat)
 case atStart=>exact ⟨0,Nat.zero_le _,rfl,rfl⟩
 case round =>
   obtain ⟨k,hk,rfl,rfl⟩:=hrel
   by_cases hlt:k<l.length
   · have hcell:=hc k hlt
     have hstep:=onN_take n l k hlt
     have hl:=onN_lt n hn (l.take k)
     have H:Hid _:=Lib.hid hstep
     clear hstep hc
     go_wp2_with (go_at_call 210;refine (rstep_any _ _ _ hl).mono ?_;rintro e w' ⟨rfl,rfl⟩)
     go_round
     case rel=>exact ⟨k+1,by omega,by go_num,by rw [H.out]⟩
     case measure=>simp [intOf];omega
   · have hkk:k=l.length:=by omega
     subst hkk
     go_wp2
     go_ret
     exact ⟨by simp,rfl⟩
theorem ron_nil (a:Option Addr) (c n:Nat) (w:World) :
   Calls Tryz.prog 204 #[.int .u32 n,.slice a 0 c] w fun e w' => e=.returned (.int .u32 n)∧w=w':=by
 go_enter Tryz.func204,Tryz.ntmps204
 go_wp2
 go_loop [0,5] (fun v i=>i=.int .i64 0∧v=.int .u32 n) (fun _ _=>0)
 case atStart=>exact ⟨rfl,rfl⟩
 case round =>
   obtain ⟨rfl,rfl⟩:=hrel
   go_wp2
   go_ret
   exact ⟨rfl,rfl⟩
theorem ron_any (a:Option Addr) (m cap n:Nat) (l:List UInt8) (w:World) (hn:n<4294967296) (h:IsB w a m cap l) :
   Calls Tryz.prog 204 #[.int .u32 n,.slice a m cap] w fun e w' => e=.returned (.int .u32 (onN n l))∧w=w':=by
 obtain ⟨rfl,h1,h2,⟨rfl,_⟩ | ⟨b,off,rfl,hb,hc⟩⟩:=h
 · exact ron_nil a cap n w
 · exact ron_some b off cap n l w hn (by unfold maxLen at h2;omega) hb hc
theorem rof_any (a:Option Addr) (m cap:Nat) (l:List UInt8) (w:World) (h:IsB w a m cap l) :
   Calls Tryz.prog 191 #[.slice a m cap] w fun e w' => e=.returned (.int .u32 (onN 2166136261 l))∧w=w':=by
 go_enter Tryz.func191,Tryz.ntmps191
 go_wp2_with (go_at_call 204;refine (ron_any _ _ _ 2166136261 l _ (by decide) h).mono ?_;rintro e w' ⟨rfl,rfl⟩)
 go_ret
 exact ⟨rfl,rfl⟩
end
section
open Go.RowKit Go.ChangeShapes Go.WideShapes Go.ChangeAt
set_option linter.unusedVariables false
theorem info5:(Tryz.prog.info? 5).map (fun i=>(i.zero,i.size,i.bytes))=some (some (.int .u8 0),1,1):=by kernel_rfl
set_option maxHeartbeats 1000000 in
theorem twin_some (b off cap:Nat) (l:List UInt8) (w:World) (hlen:l.length≤140737488351232) (hb:b<w.heap.size)
   (hc:∀ i (h:i<l.length),w.cell? ⟨b,off+i,none⟩=some (.int .u8 l[i].toNat)) :
   Calls Tryz.prog 49 #[.slice (some ⟨b,off,none⟩) l.length cap] w fun e w' =>
     e=.returned (.slice (some ⟨w.heap.size,0,none⟩) l.length (l.length+1))∧Below w.heap.size w w'∧w'.ownsRow w.heap.size 5 1 (.slice (some ⟨w.heap.size,0,none⟩) (l.length+1) (l.length+1)) (l.length+1) (bcells l ++ [.int .u8 77]):=by
 obtain ⟨i0,hi,hz0,hz1,hz2⟩:=info_parts info5
 go_enter Tryz.func49,Tryz.ntmps49
 go_wp2_with (refine wpList_make_own _ rfl _ _ 24 rfl w.heap.size 5 i0 (.int .u8 0) 1 Tryz.underlying24 hi hz0 hz1 .i64 .i64 _ (l.length+1) rfl rfl (by omega) (by rw [hz2];omega) (by unfold maxLen;omega) (Nat.le_refl _) ?_;intro w1 hown1 hg1)
 go_loopw [3,4] (fun v i wr => ∃ k:Nat,k≤l.length∧i=.int .i64 k∧v=.slice (some ⟨w.heap.size,0,none⟩) k (l.length+1)∧wr.ownsRow w.heap.size 5 1 v k (bcells (l.take k))∧Below w.heap.size w wr) (fun _ i _=>l.length - (intOf i).toNat)
 case atStart=>exact ⟨0,Nat.zero_le _,rfl,rfl,hown1,(Below.refl _ _).grown hg1 (Nat.le_refl _) (by simp)⟩
 case round =>
   obtain ⟨k,hk,rfl,rfl,hown,hbel⟩:=hrel
   have hsz:=hbel.size
   by_cases hlt:k<l.length
   · have hcell:=(hbel.cell (p:=⟨b,off+k,none⟩) hb).trans (hc k hlt)
     have hsn:=bcells_snoc l k hlt
     have H:Hid _:=Lib.hid hsn
     clear hsn hc
     go_wp2_with (at_builtin;refine wpList_append_fits _ rfl _ _ 24 rfl w.heap.size 5 i0 1 Tryz.underlying24 hi hz1 w.heap.size k (l.length+1) _ rfl (hown.alloc _) ⟨wr.heap.size,0,none⟩ 1 1 [.int .u8 l[k].toNat] rfl rfl (one_at _ _ _) (one_cell _ rfl) (by omega) ?_;intro w2 hown2 hg2)
     go_roundw
     case rel=>exact ⟨k+1,by omega,by go_num,rfl,by rw [H.out];exact hown2,(hbel.alloc hsz _).grown hg2 (by simp;omega) (by simp)⟩
     case measure=>simp [intOf];omega
   · have hkk:k=l.length:=by omega
     subst hkk
     go_wp2_with (at_builtin;refine wpList_append_fits _ rfl _ _ 24 rfl w.heap.size 5 i0 1 Tryz.underlying24 hi hz1 w.heap.size l.length (l.length+1) _ rfl (hown.alloc _) ⟨wr.heap.size,0,none⟩ 1 1 [.int .u8 77] rfl rfl (one_at _ _ _) (one_cell _ rfl) (by omega) ?_;intro w2 hown2 hg2)
     go_ret
     refine ⟨rfl,(hbel.alloc hsz _).grown hg2 (by simp;omega) (by simp),?_⟩
     simpa using hown2
set_option maxHeartbeats 1000000 in
theorem twin_nil (a:Option Addr) (c:Nat) (w:World) :
   Calls Tryz.prog 49 #[.slice a 0 c] w fun e w' =>
     e=.returned (.slice (some ⟨w.heap.size,0,none⟩) 0 1)∧Below w.heap.size w w'∧w'.ownsRow w.heap.size 5 1 (.slice (some ⟨w.heap.size,0,none⟩) 1 1) 1 [.int .u8 77]:=by
 obtain ⟨i0,hi,hz0,hz1,hz2⟩:=info_parts info5
 go_enter Tryz.func49,Tryz.ntmps49
 go_wp2_with (refine wpList_make_own _ rfl _ _ 24 rfl w.heap.size 5 i0 (.int .u8 0) 1 Tryz.underlying24 hi hz0 hz1 .i64 .i64 _ 1 rfl rfl (by omega) (by rw [hz2];omega) (by unfold maxLen;omega) (Nat.le_refl _) ?_;intro w1 hown1 hg1)
 go_loopw [3,4] (fun v i wr=>i=.int .i64 0∧v=.slice (some ⟨w.heap.size,0,none⟩) 0 1∧wr.ownsRow w.heap.size 5 1 v 0 []∧Below w.heap.size w wr) (fun _ _ _=>0)
 case atStart=>exact ⟨rfl,rfl,hown1,(Below.refl _ _).grown hg1 (Nat.le_refl _) (by simp)⟩
 case round =>
   obtain ⟨rfl,rfl,hown,hbel⟩:=hrel
   have hsz:=hbel.size
   go_wp2_with (at_builtin;refine wpList_append_fits _ rfl _ _ 24 rfl w.heap.size 5 i0 1 Tryz.underlying24 hi hz1 w.heap.size 0 1 _ rfl (hown.alloc _) ⟨wr.heap.size,0,none⟩ 1 1 [.int .u8 77] rfl rfl (one_at _ _ _) (one_cell _ rfl) (by omega) ?_;intro w2 hown2 hg2)
   go_ret
   refine ⟨rfl,(hbel.alloc hsz _).grown hg2 (by simp;omega) (by simp),?_⟩
   simpa using hown2
theorem twin_any (a:Option Addr) (m cap:Nat) (l:List UInt8) (w:World) (hm:l.length≤140737488351232) (h:IsB w a m cap l) :
   Calls Tryz.prog 49 #[.slice a m cap] w fun e w' => e=.returned (.slice (some ⟨w.heap.size,0,none⟩) m (m+1))∧Below w.heap.size w w'∧w'.ownsRow w.heap.size 5 1 (.slice (some ⟨w.heap.size,0,none⟩) (m+1) (m+1)) (m+1) (bcells l ++ [.int .u8 77]):=by
 obtain ⟨rfl,h1,h2,⟨rfl,_⟩ | ⟨b,off,rfl,hb,hc⟩⟩:=h
 · exact twin_nil a cap w
 · exact twin_some b off cap l w hm hb hc
def IsTwin (w:World) (g:Nat) (l:List UInt8):Prop :=
 g<w.heap.size∧(∀ i (h:i<l.length),w.cell? ⟨g,i,none⟩=some (.int .u8 l[i].toNat))∧w.cell? ⟨g,l.length,none⟩=some (.int .u8 77)
theorem IsTwin.of {w:World} {B e g n c:Nat} {l:List UInt8} (h:w.ownsRow B e 1 (.slice (some ⟨g,0,none⟩) n c) n (bcells l ++ [.int .u8 77])):IsTwin w g l:=by
 have h1:w.cell? ⟨g,l.length,none⟩=some (.int .u8 77):=cells_of_owns h _ _ (by simp [bcells])
 refine ⟨(h.lt g rfl).2,fun i hi=>cells_of_owns h _ _ ?_,h1⟩
 rw [List.getElem?_append_left (by simpa [bcells] using hi)]
 simp [bcells,hi]
theorem IsTwin.isB {w:World} {g:Nat} {l:List UInt8} (h:IsTwin w g l) (hm:l.length<maxLen):IsB w (some ⟨g,0,none⟩) l.length (l.length+1) l :=
 ⟨rfl,by omega,by omega,.inr ⟨g,0,rfl,h.1,by simpa using h.2.1⟩⟩
theorem IsTwin.below {w w':World} {g:Nat} {l:List UInt8} (h:IsTwin w g l) (hb:Below w.heap.size w w'):IsTwin w' g l :=
 ⟨Nat.lt_of_lt_of_le h.1 hb.size,fun i hi=>(hb.cell (p:=⟨g,i,none⟩) h.1).trans (h.2.1 i hi),(hb.cell (p:=⟨g,_,none⟩) h.1).trans h.2.2⟩
end
section
open Go.RowKit Go.ChangeShapes Go.WideShapes Go.ChangeAt
set_option linter.unusedVariables false
set_option maxHeartbeats 1000000 in
theorem left_some (g b off cap:Nat) (l:List UInt8) (w:World) (hlen:l.length≤140737488351232)
   (hg:∀ i (h:i<l.length),w.cell? ⟨g,i,none⟩=some (.int .u8 l[i].toNat)) (h77:w.cell? ⟨g,l.length,none⟩=some (.int .u8 77))
   (hc:∀ i (h:i<l.length),w.cell? ⟨b,off+i,none⟩=some (.int .u8 l[i].toNat)) :
   Calls Tryz.prog 65 #[.slice (some ⟨g,0,none⟩) l.length (l.length+1),.slice (some ⟨b,off,none⟩) l.length cap] w fun e w' => e=.returned (.bool true)∧Below w.heap.size w w':=by
 go_enter Tryz.func65,Tryz.ntmps65
 go_wp2
 go_loopw [5] (fun i wr => ∃ k n:Nat,k≤l.length∧i=.int .i64 k∧wr=w.drewN n) (fun i _=>l.length - (intOf i).toNat)
 case atStart=>exact ⟨0,0,Nat.zero_le _,rfl,rfl⟩
 case round =>
   obtain ⟨k,n,hk,rfl,rfl⟩:=hrel
   by_cases hlt:k<l.length
   · have h1:=hg k hlt
     have h2:=hc k hlt
     clear hg hc h77
     go_wp2
     go_quiet (fail)
     go_wp2
     go_roundw
     case rel=>exact ⟨k+1,_,by omega,by go_num,rfl⟩
     case measure=>simp [intOf];omega
   · have hkk:k=l.length:=by omega
     subst hkk
     clear hg hc
     go_wp2
     go_ret
     exact ⟨rfl,below_drewN (Below.refl _ _) _⟩
set_option maxHeartbeats 1000000 in
theorem left_nil (a:Option Addr) (c g:Nat) (w:World) (h77:w.cell? ⟨g,0,none⟩=some (.int .u8 77)) :
   Calls Tryz.prog 65 #[.slice (some ⟨g,0,none⟩) 0 1,.slice a 0 c] w fun e w' => e=.returned (.bool true)∧Below w.heap.size w w':=by
 go_enter Tryz.func65,Tryz.ntmps65
 go_wp2
 go_loopw [5] (fun i wr=>i=.int .i64 0∧wr=w) (fun _ _=>0)
 case atStart=>exact ⟨rfl,rfl⟩
 case round =>
   obtain ⟨rfl,rfl⟩:=hrel
   go_wp2
   go_ret
   exact ⟨rfl,Below.refl _ _⟩
theorem left_any (g:Nat) (a:Option Addr) (m cap:Nat) (l:List UInt8) (w:World) (hm:l.length≤140737488351232) (h:IsB w a m cap l) (ht:IsTwin w g l) :
   Calls Tryz.prog 65 #[.slice (some ⟨g,0,none⟩) m (m+1),.slice a m cap] w fun e w' => e=.returned (.bool true)∧Below w.heap.size w w':=by
 obtain ⟨rfl,h1,h2,⟨rfl,_⟩ | ⟨b,off,rfl,hb,hc⟩⟩:=h
 · exact left_nil a cap g w ht.2.2
 · exact left_some g b off cap l w hm ht.2.1 ht.2.2 hc
end
open Go.RowKit
set_option linter.unusedVariables false
set_option maxHeartbeats 1000000 in
theorem sameB_some (a b ao bo c d:Nat) (l m:List UInt8) (w:World) (hlen:l.length≤9223372036854775807) (hlm:l.length=m.length)
   (hl:∀ i (h:i<l.length),w.cell? ⟨a,ao+i,none⟩=some (.int .u8 l[i].toNat)) (hm:∀ i (h:i<m.length),w.cell? ⟨b,bo+i,none⟩=some (.int .u8 m[i].toNat)) :
   Calls Tryz.prog 92 #[.slice (some ⟨a,ao,none⟩) l.length c,.slice (some ⟨b,bo,none⟩) l.length d] w fun e w' => e=.returned (.bool (decide (l=m)))∧∃ j,w'=w.drewN j:=by
 go_enter Tryz.func92,Tryz.ntmps92
 go_wp2
 go_loopw [5] (fun i wr => ∃ k j:Nat,k≤l.length∧i=.int .i64 k∧wr=w.drewN j∧l.take k=m.take k) (fun i _=>l.length - (intOf i).toNat)
 case atStart=>exact ⟨0,0,Nat.zero_le _,rfl,rfl,rfl⟩
 case round =>
   obtain ⟨k,j,hk,rfl,rfl,hs⟩:=hrel
   have HS:=Lib.hid hs
   clear hs
   have HLM:=Lib.hid hlm
   clear hlm
   by_cases hlt:k<l.length
   · have hkm:k<m.length:=by rw [← HLM.out];exact hlt
     have h1:=hl k hlt
     have h2:=hm k hkm
     clear hl hm
     by_cases he:l[k]=m[k]
     · have HE:=Lib.hid he
       have hn:((l[k].toNat:Int) != (m[k].toNat:Int))=false:=by rw [he];simp
       clear he
       go_wp2
       go_quiet (fail)
       go_wp2
       go_roundw
       case rel=>exact ⟨k+1,_,by omega,by go_num,rfl,by rw [List.take_succ_eq_append_getElem hlt,List.take_succ_eq_append_getElem hkm,HS.out,HE.out]⟩
       case measure=>simp [intOf];omega
     · have HE:=Lib.hid he
       have hn:((l[k].toNat:Int) != (m[k].toNat:Int))=true:=by rw [bne_iff_ne];exact fun h=>he (UInt8.toNat_inj.1 (by omega))
       clear he
       go_wp2
       go_quiet (fail)
       go_wp2
       go_ret
       refine ⟨?_,j+nq,by simp⟩
       have hne:decide (l=m)=false:=decide_eq_false (fun h=>HE.out (by subst h;rfl))
       rw [hne];rfl
   · have hkk:k=l.length:=by omega
     subst hkk
     clear hl hm
     have hlm':l=m:=by
       have h:=HS.out
       rw [List.take_length,HLM.out,List.take_length] at h
       exact h
     have HQ:=Lib.hid hlm'
     clear hlm'
     go_wp2
     go_ret
     refine ⟨?_,_,rfl⟩
     rw [decide_eq_true HQ.out];rfl
theorem sameB_apart (a b:Option Addr) (n m c d:Nat) (w:World) (hnm:n≠m) :
   Calls Tryz.prog 92 #[.slice a n c,.slice b m d] w fun e w' => e=.returned (.bool false)∧∃ j,w'=w.drewN j:=by
 have hne:((n:Int) != (m:Int))=true:=by rw [bne_iff_ne];omega
 go_enter Tryz.func92,Tryz.ntmps92
 go_wp2
 go_ret
 exact ⟨rfl,0,rfl⟩
theorem sameB_nil (a b:Option Addr) (c d:Nat) (w:World) :
   Calls Tryz.prog 92 #[.slice a 0 c,.slice b 0 d] w fun e w' => e=.returned (.bool true)∧∃ j,w'=w.drewN j:=by
 go_enter Tryz.func92,Tryz.ntmps92
 go_wp2
 go_loop [5] (fun i=>i=.int .i64 0) (fun _=>0)
 case atStart=>rfl
 case round =>
   obtain rfl:=hrel
   go_wp2
   go_ret
   exact ⟨rfl,0,rfl⟩
theorem sameB_any (a b:Option Addr) (n m c d:Nat) (l k:List UInt8) (w:World) (hl:IsB w a n c l) (hk:IsB w b m d k) :
   Calls Tryz.prog 92 #[.slice a n c,.slice b m d] w fun e w' => e=.returned (.bool (decide (l=k)))∧∃ j,w'=w.drewN j:=by
 by_cases hnm:n=m
 · obtain ⟨rfl,h1,h2,h3⟩:=hl
   obtain ⟨rfl,k1,k2,k3⟩:=hk
   rcases h3 with ⟨rfl,_⟩ | ⟨b1,o1,rfl,hb1,hc1⟩
   · obtain rfl:k=[]:=List.eq_nil_of_length_eq_zero hnm.symm
     exact sameB_nil a b c d w
   · rcases k3 with ⟨rfl,_⟩ | ⟨b2,o2,rfl,hb2,hc2⟩
     · obtain rfl:l=[]:=List.eq_nil_of_length_eq_zero hnm
       exact sameB_nil _ b c d w
     · rw [← hnm]
       exact sameB_some b1 b2 o1 o2 c d l k w (by unfold maxLen at h2;omega) hnm hc1 hc2
 · have hne:decide (l=k)=false:=decide_eq_false (fun h=>hnm (by rw [hl.1,hk.1,h]))
   rw [hne]
   exact sameB_apart a b n m c d w hnm
end Go.Proofs.YtgbikngicidbkaaGreatDoor
