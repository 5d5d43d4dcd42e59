/- Lists of ints in memory: lemmas of our own;conditions: those typed. -/
import Derived.Test.YtmmmjohoihpbeaaGreatQOGBase
import Derived.Laws.OwnMore
namespace Go.Proofs.YtmmmjohoihpbeaaGreat
section
open Go.RowKit
set_option linter.unusedVariables false
theorem infoInt:(Tryz.prog.info? 3).map (fun i=>(i.zero,i.size,i.bytes))=some (some (.int .i64 0),1,8):=by kernel_rfl
def icells (l:List Int):List Value:=l.map (Value.int .i64)
theorem icells_length (l:List Int):(icells l).length=l.length:=by simp [icells]
theorem icells_one (l:List Int):∀ u ∈ icells l,u.oneCell'=true:=by
 intro u hu
 obtain ⟨b,_,rfl⟩:=List.mem_map.1 hu
 rfl
theorem icells_append (a b:List Int):icells (a ++ b)=icells a ++ icells b:=List.map_append
theorem icells_get (l:List Int) (i:Nat) (h:i<l.length):(icells l)[i]?=some (.int .i64 l[i]):=by simp [icells,h]
def IsI (w:World) (a:Option Addr) (n c:Nat) (l:List Int):Prop :=
 n=l.length∧l.length≤c∧c≤maxLen∧((l=[]∧(a=none→c=0))∨∃ b off,a=some ⟨b,off,none⟩∧b<w.heap.size∧∀ i (h:i<l.length),w.cell? ⟨b,off+i,none⟩=some (.int .i64 l[i]))
theorem IsI.nil (w:World):IsI w none 0 0 []:=⟨rfl,Nat.le_refl _,by decide,.inl ⟨rfl,fun _=>rfl⟩⟩
theorem IsI.below {w w':World} {a:Option Addr} {n c:Nat} {l:List Int} (h:IsI w a n c l) (hb:Below w.heap.size w w'):IsI w' a n c l:=by
 obtain ⟨h1,h2,h3,h4 | ⟨b,off,rfl,hlt,hc⟩⟩:=h
 · exact ⟨h1,h2,h3,.inl h4⟩
 · exact ⟨h1,h2,h3,.inr ⟨b,off,rfl,Nat.lt_of_lt_of_le hlt hb.size,fun i hi=>(hb.cell (p:=⟨b,off+i,none⟩) hlt).trans (hc i hi)⟩⟩
theorem isI_of_owns {w:World} {base e n:Nat} {a:Option Addr} {m c:Nat} {l:List Int} (h:w.ownsRow base e 1 (.slice a m c) n (icells l)) (hn:n=l.length):IsI w a m c l:=by
 have hl:=h.1
 rcases h.2 with ⟨hv,h0⟩ | ⟨g,cap,cur,hv,hb,hg,hnc,hcm,hcs,htk⟩
 · cases hv
   have:l=[]:=List.eq_nil_of_length_eq_zero (by omega)
   subst this
   exact ⟨rfl,Nat.le_refl _,by decide,.inl ⟨rfl,fun _=>rfl⟩⟩
 · cases hv
   refine ⟨hn,by omega,hcm,.inr ⟨g,0,rfl,?_,fun i hi => ?_⟩⟩
   · exact (h.lt g rfl).2
   · rw [Nat.zero_add]
     exact cells_of_owns h i _ (icells_get l i hi)
theorem owns_icell {w:World} {base e g n c:Nat} {L:List Int} (h:w.ownsRow base e 1 (.slice (some ⟨g,0,none⟩) n c) n (icells L)) (j:Nat) (hj:j<L.length):w.cell? ⟨g,j,none⟩=some (.int .i64 L[j]) :=
 cells_of_owns h j _ (icells_get L j hj)
theorem IsI.fresh (w:World) (l:List Int) (C:Array Value) (e:TypeId) (fz:Nat × Nat) (hC:C=(l.map fun b=>Value.int .i64 b).toArray) (n c:Nat) (hn:n=l.length) (hc:c=l.length) (hm:l.length≤maxLen) :
   IsI (w.alloc (.cells C e fz)) (some ⟨w.heap.size,0,none⟩) n c l:=by
 subst hC
 refine ⟨hn,by omega,by omega,.inr ⟨_,_,rfl,by simp,fun i h => ?_⟩⟩
 rw [cell_of_block (heap_new w _)]
 simp [h]
/- The statements helper SameInts;conditions: those typed. -/
open Go.RowKit
set_option linter.unusedVariables false
/- The statements' helper TwinInts;no condition but those typed. -/
open Go.RowKit Go.ChangeShapes Go.WideShapes Go.ChangeAt
set_option linter.unusedVariables false
theorem icells_snoc (l:List Int) (k:Nat) (h:k<l.length):icells (l.take (k+1))=icells (l.take k) ++ [.int .i64 l[k]]:=by
 unfold icells
 rw [List.take_succ_eq_append_getElem h,List.map_append];rfl
theorem info3i:(Tryz.prog.info? 3).map (fun i=>(i.zero,i.size,i.bytes))=some (some (.int .i64 0),1,8):=by kernel_rfl
set_option maxHeartbeats 1000000 in
theorem twinI_some (b off cap:Nat) (l:List Int) (w:World) (hlen:l.length≤1000000000) (hb:b<w.heap.size)
   (hc:∀ i (h:i<l.length),w.cell? ⟨b,off+i,none⟩=some (.int .i64 l[i])) :
   Calls Tryz.prog 11 #[.slice (some ⟨b,off,none⟩) l.length cap] w fun e w' =>
     e=.returned (.slice (some ⟨w.heap.size,0,none⟩) l.length (l.length+1))∧Below w.heap.size w w'∧w'.ownsRow w.heap.size 3 1 (.slice (some ⟨w.heap.size,0,none⟩) (l.length+1) (l.length+1)) (l.length+1) (icells l ++ [.int .i64 77]):=by
 obtain ⟨i0,hi,hz0,hz1,hz2⟩:=info_parts info3i
 go_enter Tryz.func11,Tryz.ntmps11
 go_wp2_with (refine wpList_make_own _ rfl _ _ 22 rfl w.heap.size 3 i0 (.int .i64 0) 1 Tryz.underlying22 hi hz0 hz1 .i64 .i64 _ (l.length+1) rfl rfl (by omega) (by rw [hz2];omega) (by unfold maxLen;omega) (Nat.le_refl _) ?_;intro w1 hown1 hg1)
 go_loopw [3,4] (fun v i wr => ∃ k:Nat,k≤l.length∧i=.int .i64 k∧v=.slice (some ⟨w.heap.size,0,none⟩) k (l.length+1)∧wr.ownsRow w.heap.size 3 1 v k (icells (l.take k))∧Below w.heap.size w wr) (fun _ i _=>l.length - (intOf i).toNat)
 case atStart=>exact ⟨0,Nat.zero_le _,rfl,rfl,hown1,(Below.refl _ _).grown hg1 (Nat.le_refl _) (by simp)⟩
 case round =>
   obtain ⟨k,hk,rfl,rfl,hown,hbel⟩:=hrel
   have hsz:=hbel.size
   by_cases hlt:k<l.length
   · have hcell:=(hbel.cell (p:=⟨b,off+k,none⟩) hb).trans (hc k hlt)
     have hsn:=icells_snoc l k hlt
     have H:Hid _:=Lib.hid hsn
     clear hsn hc
     go_wp2_with (at_builtin;refine wpList_append_fits _ rfl _ _ 22 rfl w.heap.size 3 i0 1 Tryz.underlying22 hi hz1 w.heap.size k (l.length+1) _ rfl (hown.alloc _) ⟨wr.heap.size,0,none⟩ 1 1 [.int .i64 l[k]] rfl rfl (one_at _ _ _) (one_cell _ rfl) (by omega) ?_;intro w2 hown2 hg2)
     go_roundw
     case rel=>exact ⟨k+1,by omega,by go_num,rfl,by rw [H.out];exact hown2,(hbel.alloc hsz _).grown hg2 (by simp;omega) (by simp)⟩
     case measure=>simp [intOf];omega
   · have hkk:k=l.length:=by omega
     subst hkk
     go_wp2_with (at_builtin;refine wpList_append_fits _ rfl _ _ 22 rfl w.heap.size 3 i0 1 Tryz.underlying22 hi hz1 w.heap.size l.length (l.length+1) _ rfl (hown.alloc _) ⟨wr.heap.size,0,none⟩ 1 1 [.int .i64 77] rfl rfl (one_at _ _ _) (one_cell _ rfl) (by omega) ?_;intro w2 hown2 hg2)
     go_ret
     refine ⟨rfl,(hbel.alloc hsz _).grown hg2 (by simp;omega) (by simp),?_⟩
     simpa using hown2
set_option maxHeartbeats 1000000 in
theorem twinI_nil (a:Option Addr) (c:Nat) (w:World) :
   Calls Tryz.prog 11 #[.slice a 0 c] w fun e w' =>
     e=.returned (.slice (some ⟨w.heap.size,0,none⟩) 0 1)∧Below w.heap.size w w'∧w'.ownsRow w.heap.size 3 1 (.slice (some ⟨w.heap.size,0,none⟩) 1 1) 1 [.int .i64 77]:=by
 obtain ⟨i0,hi,hz0,hz1,hz2⟩:=info_parts info3i
 go_enter Tryz.func11,Tryz.ntmps11
 go_wp2_with (refine wpList_make_own _ rfl _ _ 22 rfl w.heap.size 3 i0 (.int .i64 0) 1 Tryz.underlying22 hi hz0 hz1 .i64 .i64 _ 1 rfl rfl (by omega) (by rw [hz2];omega) (by unfold maxLen;omega) (Nat.le_refl _) ?_;intro w1 hown1 hg1)
 go_loopw [3,4] (fun v i wr=>i=.int .i64 0∧v=.slice (some ⟨w.heap.size,0,none⟩) 0 1∧wr.ownsRow w.heap.size 3 1 v 0 []∧Below w.heap.size w wr) (fun _ _ _=>0)
 case atStart=>exact ⟨rfl,rfl,hown1,(Below.refl _ _).grown hg1 (Nat.le_refl _) (by simp)⟩
 case round =>
   obtain ⟨rfl,rfl,hown,hbel⟩:=hrel
   have hsz:=hbel.size
   go_wp2_with (at_builtin;refine wpList_append_fits _ rfl _ _ 22 rfl w.heap.size 3 i0 1 Tryz.underlying22 hi hz1 w.heap.size 0 1 _ rfl (hown.alloc _) ⟨wr.heap.size,0,none⟩ 1 1 [.int .i64 77] rfl rfl (one_at _ _ _) (one_cell _ rfl) (by omega) ?_;intro w2 hown2 hg2)
   go_ret
   refine ⟨rfl,(hbel.alloc hsz _).grown hg2 (by simp;omega) (by simp),?_⟩
   simpa using hown2
theorem twinI_any (a:Option Addr) (m cap:Nat) (l:List Int) (w:World) (hm:l.length≤1000000000) (h:IsI w a m cap l) :
   Calls Tryz.prog 11 #[.slice a m cap] w fun e w' => e=.returned (.slice (some ⟨w.heap.size,0,none⟩) m (m+1))∧Below w.heap.size w w'∧w'.ownsRow w.heap.size 3 1 (.slice (some ⟨w.heap.size,0,none⟩) (m+1) (m+1)) (m+1) (icells l ++ [.int .i64 77]):=by
 obtain ⟨rfl,h1,h2,⟨rfl,_⟩ | ⟨b,off,rfl,hb,hc⟩⟩:=h
 · exact twinI_nil a cap w
 · exact twinI_some b off cap l w hm hb hc
def IsTwinI (w:World) (g:Nat) (l:List Int):Prop :=
 g<w.heap.size∧(∀ i (h:i<l.length),w.cell? ⟨g,i,none⟩=some (.int .i64 l[i]))∧w.cell? ⟨g,l.length,none⟩=some (.int .i64 77)
theorem IsTwinI.isB {w:World} {g:Nat} {l:List Int} (h:IsTwinI w g l) (hm:l.length<maxLen):IsI w (some ⟨g,0,none⟩) l.length (l.length+1) l :=
 ⟨rfl,by omega,by omega,.inr ⟨g,0,rfl,h.1,by simpa using h.2.1⟩⟩
theorem IsTwinI.below {w w':World} {g:Nat} {l:List Int} (h:IsTwinI w g l) (hb:Below w.heap.size w w'):IsTwinI w' g l :=
 ⟨Nat.lt_of_lt_of_le h.1 hb.size,fun i hi=>(hb.cell (p:=⟨g,i,none⟩) h.1).trans (h.2.1 i hi),(hb.cell (p:=⟨g,_,none⟩) h.1).trans h.2.2⟩
end
section
open Go.RowKit Go.ChangeShapes Go.WideShapes Go.ChangeAt
set_option linter.unusedVariables false
set_option maxHeartbeats 1000000 in
theorem leftI_some (g b off cap:Nat) (l:List Int) (w:World) (hlen:l.length≤1000000000)
   (hg:∀ i (h:i<l.length),w.cell? ⟨g,i,none⟩=some (.int .i64 l[i])) (h77:w.cell? ⟨g,l.length,none⟩=some (.int .i64 77))
   (hc:∀ i (h:i<l.length),w.cell? ⟨b,off+i,none⟩=some (.int .i64 l[i])) :
   Calls Tryz.prog 18 #[.slice (some ⟨g,0,none⟩) l.length (l.length+1),.slice (some ⟨b,off,none⟩) l.length cap] w fun e w' => e=.returned (.bool true)∧Below w.heap.size w w':=by
 go_enter Tryz.func18,Tryz.ntmps18
 go_wp2
 go_loopw [5] (fun i wr => ∃ k n:Nat,k≤l.length∧i=.int .i64 k∧wr=w.drewN n) (fun i _=>l.length - (intOf i).toNat)
 case atStart=>exact ⟨0,0,Nat.zero_le _,rfl,rfl⟩
 case round =>
   obtain ⟨k,n,hk,rfl,rfl⟩:=hrel
   by_cases hlt:k<l.length
   · have h1:=hg k hlt
     have h2:=hc k hlt
     clear hg hc h77
     go_wp2
     go_quiet (fail)
     go_wp2
     go_roundw
     case rel=>exact ⟨k+1,_,by omega,by go_num,rfl⟩
     case measure=>simp [intOf];omega
   · have hkk:k=l.length:=by omega
     subst hkk
     clear hg hc
     go_wp2
     go_ret
     exact ⟨rfl,below_drewN (Below.refl _ _) _⟩
set_option maxHeartbeats 1000000 in
theorem leftI_nil (a:Option Addr) (c g:Nat) (w:World) (h77:w.cell? ⟨g,0,none⟩=some (.int .i64 77)) :
   Calls Tryz.prog 18 #[.slice (some ⟨g,0,none⟩) 0 1,.slice a 0 c] w fun e w' => e=.returned (.bool true)∧Below w.heap.size w w':=by
 go_enter Tryz.func18,Tryz.ntmps18
 go_wp2
 go_loopw [5] (fun i wr=>i=.int .i64 0∧wr=w) (fun _ _=>0)
 case atStart=>exact ⟨rfl,rfl⟩
 case round =>
   obtain ⟨rfl,rfl⟩:=hrel
   go_wp2
   go_ret
   exact ⟨rfl,Below.refl _ _⟩
theorem leftI_any (g:Nat) (a:Option Addr) (m cap:Nat) (l:List Int) (w:World) (hm:l.length≤1000000000) (h:IsI w a m cap l) (ht:IsTwinI w g l) :
   Calls Tryz.prog 18 #[.slice (some ⟨g,0,none⟩) m (m+1),.slice a m cap] w fun e w' => e=.returned (.bool true)∧Below w.heap.size w w':=by
 obtain ⟨rfl,h1,h2,⟨rfl,_⟩ | ⟨b,off,rfl,hb,hc⟩⟩:=h
 · exact leftI_nil a cap g w ht.2.2
 · exact leftI_some g b off cap l w hm ht.2.1 ht.2.2 hc
end
end Go.Proofs.YtmmmjohoihpbeaaGreat
