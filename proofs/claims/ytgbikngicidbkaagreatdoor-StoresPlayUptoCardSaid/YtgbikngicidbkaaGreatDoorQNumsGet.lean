/- The package nums: Get;conditions: those typed. -/
import Derived.Test.YtgbikngicidbkaaGreatDoorQNumsG
import Derived.Test.YtgbikngicidbkaaGreatDoorQGHeapBFz
import Derived.RangeFuncWrites
namespace Go.Proofs.YtgbikngicidbkaaGreatDoor
section
open Go.RowKit Go.Shelf
set_option linter.unusedVariables false
attribute [local go_sem] Oper.semAt_some
theorem acc_step (pre:List (Nat × UInt8)) (x:UInt8) (h:pre.length<8):bits BinOp.or IntKind.u64 (IntKind.u64.wrap ((accN pre:Int)*256)) (IntKind.u64.wrap (x.toNat:Int))=((accN pre*256+x.toNat:Nat):Int):=by
 have hx:=x.toNat_lt
 have h7:accN pre<72057594037927936:=Nat.lt_of_lt_of_le (accN_lt pre) (Nat.le_trans (Nat.pow_le_pow_right (by decide) (show pre.length≤7 by omega)) (by decide))
 have e1:IntKind.u64.wrap ((accN pre:Int)*256)=((accN pre*256:Nat):Int):=by rw [IntKind.wrap_u64];omega
 have e2:IntKind.u64.wrap (x.toNat:Int)=(x.toNat:Int):=by rw [IntKind.wrap_u64];omega
 rw [e1,e2,u64_or_nat _ _ (by omega) (by omega)]
 congr 1
 have:=Nat.two_pow_add_eq_or_of_lt (i:=8) (b:=x.toNat) (by omega) (accN pre)
 rw [Nat.mul_comm] at this
 exact this.symm
set_option maxRecDepth 100000 in
set_option maxHeartbeats 4000000 in
theorem nget_in (F:Fence) (n:Nat) (h3:F.fn 196) (h6:F.fn 208) (h8:F.fn 214) (hro:F.round=none) (hn:3≤n) (b off c k m:Nat) (l:List UInt8) (w:World)
   (hl:IsB w (some ⟨b,off,none⟩) m c l) (hk1:1≤k) (hk8:k≤8) (hkl:k≤l.length) :
   CallsIn F n Tryz.prog 196 #[.slice (some ⟨b,off,none⟩) m c,.int .i64 k] w fun e W' => e=.returned (.tuple #[.int .u64 (numOf (l.take k)),.int .i64 0])∧Below w.heap.size w W':=by
 have h1:1≤n:=by omega
 obtain rfl:=hl.1
 have d1:decide ((k:Int)<1)=false:=by rw [decide_eq_false_iff_not];omega
 have d2:decide ((8:Int)<(k:Int))=false:=by rw [decide_eq_false_iff_not];omega
 have d3:decide ((l.length:Int)<(k:Int))=false:=by rw [decide_eq_false_iff_not];omega
 refine callsIn_of_wp_marks Tryz.func196 rfl h3 ?_ hro
 simp only [Tryz.ntmps196,List.size_toArray,List.length_cons,List.length_nil,Nat.reduceAdd,Nat.reduceSub,Array.replicate_succ,Array.replicate_zero,List.push_toArray,List.append_toArray,List.nil_append,List.cons_append]
 have hcc:l.length≤c:=hl.2.1
 gi_wp2_with (gi_at_call 208;refine (back_in F (n - 1) h6 hro _ _ _ _).mono ?_;rintro e w' ⟨rfl,rfl⟩)
 have hb:=hl.2.2.2
 have bS:=Boxed.new w 25 (.int .u64 0)
 have bN:=Boxed.new (w.alloc (.cells #[.int .u64 0] 25)) 24 (.slice (some ⟨b,off,none⟩) k k)
 rw [World.size_alloc] at bN
 have hB0:Below w.heap.size w ((w.alloc (.cells #[.int .u64 0] 25)).alloc (.cells #[.slice (some ⟨b,off,none⟩) k k] 24)):=((Below.refl _ w).alloc (Nat.le_refl _) _).alloc (by simp) _
 have hlt:(l.take k).length=k:=by simp;omega
 have hbl:b<w.heap.size:=by
   rcases hl.2.2.2 with ⟨h,_⟩ | ⟨b',off',h,h2,_⟩
   · rw [h] at hkl;simp at hkl;omega
   · cases h;exact h2
 have hI:IsB w (some ⟨b,off,none⟩) k k (l.take k):=by
   refine ⟨hlt.symm,by omega,Nat.le_trans hkl (Nat.le_trans hl.2.1 hl.2.2.1),.inr ⟨b,off,rfl,hbl,fun i hi => ?_⟩⟩
   rcases hl.2.2.2 with ⟨h,_⟩ | ⟨b',off',h,h2,h3⟩
   · rw [h] at hkl;simp at hkl;omega
   · cases h
     have:=h3 i (by simp at hi;omega)
     rw [this];simp
 refine wpIn_rangeFunc_ownG hro h1 (gf:=214) (lb:=#[.pointer (some ⟨w.heap.size+1,0,none⟩)]) rfl h8 (enters_of Tryz.func214 (by kernel_rfl) rfl)
   (back_stops F (n - 1) h8 hro (by omega) (w.heap.size+1) w.heap.size (some ⟨b,off,none⟩) k k (l.take k) (by rw [hlt];omega) _ (by simp) (by simp;omega) bN.cell (hI.below hB0) (fun b' off' h=>by cases h;exact hbl)) KB.t (KB.b (by simp;omega) (by simp)) (Below.refl _ _) (fun _=>rfl)
   (fun pre W=>(W.cell? ⟨w.heap.size,0,none⟩=some (.int .u64 (accN pre))∧W.frozen? ⟨w.heap.size,0,none⟩=false)∧Below w.heap.size w W)
   (fun _ _ _=>False)
   (OwnFrom.and (Own.from (fun s A B row hs hg hr=>⟨cell_kept hs.1 hg hr,(frozen_kept hs.1 hg hr).trans hs.2⟩) _) (ownFrom_below (Nat.le_refl _) (by simp;omega)))
   (fun _ _ _ _ _ hs _ _=>hs)
   ⟨⟨(bS.alloc _).cell,(bS.alloc _).frozen⟩,hB0⟩
   (fun x=>{ tmps:=#[.slice (some ⟨b,off,none⟩) l.length c,.int .i64 k,undef,undef,.pointer (some ⟨w.heap.size,0,none⟩),.int .i64 0,undef,.int .u8 x.2.toNat,.bool false,.int .i64 k,.bool false,.bool false,.int .i64 k,.bool false,.bool false,.bool false,.slice (some ⟨b,off,none⟩) l.length c,.int .i64 l.length,.int .i64 k,.bool false,.slice (some ⟨b,off,none⟩) l.length c,.int .i64 k,.int .i64 k,.slice (some ⟨b,off,none⟩) k k,.func (.func 214) #[] #[.pointer (some ⟨w.heap.size+1,0,none⟩)],.int .i64 (x.1:Int),.int .u8 x.2.toNat,undef,undef,undef,undef,undef,undef],defers:=[] }) ?assign ?body ?done ?stop
 case assign =>
   intro l x W K hK
   gi_wp2
   exact hK
 case body =>
   rintro l pre x W ⟨⟨hc,hf⟩,hB⟩ hpl
   gi_wp2
   have hst:=acc_step pre x.2 (by omega)
   rw [hst]
   refine ⟨(KeepsOthers.setCell _ _ _).from _,⟨(Below.refl w.heap.size W).setCell (p:=⟨w.heap.size,0,none⟩) (Nat.le_refl _) _,fun v hv => ?_⟩,⟨by rw [accN_snoc];exact World.cell?_setCell_same' _ _ _ (by rw [hc];rfl),by rw [World.frozen?_setCell];exact hf⟩,hB.setCell (p:=⟨w.heap.size,0,none⟩) (Nat.le_refl _) _⟩
   rw [World.cell?_setCell_other _ _ _ _ (by simp)];exact hv
 case done =>
   rintro D ys W hD rfl ⟨⟨hc,hf⟩,hB⟩ hK
   rw [accN_bk] at hc
   gi_wp2
   have hK':=(KeepsOthers.setCell W ⟨w.heap.size,0,none⟩ (.int .u64 (numOf (l.take k)))).same D _ hK rfl
   refine ⟨by simp,.inl ⟨_,_,rfl,run_takeDeferred hK',?_⟩⟩
   have hc5:=cell_kept (World.cell?_setCell_same' W ⟨w.heap.size,0,none⟩ (.int .u64 (numOf (l.take k))) (by rw [hc];rfl)) (grownBy_putObj' _ D (.deferred none)) (fun r e=>by cases e;exact ⟨_,hK',rfl⟩)
   refine ⟨.tuple #[.int .u64 (numOf (l.take k)),.int .i64 0],?_,rfl,(hB.setCell (p:=⟨w.heap.size,0,none⟩) (Nat.le_refl _) _).trans (belowK_b (w:=w) (Nat.le_refl _) _ D _ _ (by simp at hD;omega) hK' rfl rfl)⟩
   simp [results,Tryz.f196,go_sem,hc5]
 case stop =>
   rintro D c pre W _ _ h _
   exact h.elim
theorem nget_any (a:Option Addr) (c k m:Nat) (l:List UInt8) (w:World) (hl:IsB w a m c l) (hk1:1≤k) (hk8:k≤8) (hkl:k≤l.length) :
   Calls Tryz.prog 196 #[.slice a m c,.int .i64 k] w fun e W' => e=.returned (.tuple #[.int .u64 (numOf (l.take k)),.int .i64 0])∧Below w.heap.size w W':=by
 have ha:∃ b off,a=some ⟨b,off,none⟩:=by
   rcases hl.2.2.2 with ⟨h,_⟩ | ⟨b,off,h,_⟩
   · rw [h] at hkl;simp at hkl;omega
   · exact ⟨b,off,h⟩
 obtain ⟨b,off,rfl⟩:=ha
 exact (nget_in ⟨fun _=>True,none,true,none⟩ 3 trivial trivial trivial rfl (Nat.le_refl _) b off c k m l w hl hk1 hk8 hkl).calls (fun k d h=>by cases h)
end
end Go.Proofs.YtgbikngicidbkaaGreatDoor
