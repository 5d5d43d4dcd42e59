/- What a play on stores asks: records of any number,a record's twin,both stores;conditions: those typed. -/
import Derived.Test.YtgbikngicidbkaaGreatDoorQStMktKBpMStPlaySStMktPStActStLawM
import Derived.Test.YtgbikngicidbkaaGreatDoorQStTyC
import Derived.Test.YtgbikngicidbkaaGreatDoorQGStTwStTRStOpnStGrtStCfgStGrtE
import Derived.Test.YtgbikngicidbkaaGreatDoorQTwinCTwinCfg
import Derived.Test.YtgbikngicidbkaaGreatDoorQR20mR20nR20o
import Derived.Test.YtgbikngicidbkaaGreatDoorQFieldArgs
import Derived.Test.YtgbikngicidbkaaGreatDoorQGStCGStCloStArg2
import Derived.Test.YtgbikngicidbkaaGreatDoorQMChkSameRSameC
import Derived.Deep.Slices
import Derived.OpenShut
namespace Go.Proofs.YtgbikngicidbkaaGreatDoor
open Go.RowKit
set_option linter.unusedVariables false
set_option linter.unusedSimpArgs false
set_option maxRecDepth 100000
theorem get_lt32 {w:World} {bd bl:Nat} {D:Dsk} (h:IsDisk w bd bl D) (p:Int):(D.get p).1<4294967296:=by
 unfold Dsk.get
 split
 · show 0<4294967296;decide
 · rename_i hp
   have hp2:¬ p<0∧¬ (D.secs.length:Int) - 12<p:=⟨fun e=>hp (.inl e),fun e=>hp (.inr e)⟩
   exact newestW_lt h _ (by omega)
def recK (c:StC) (D:Dsk) (who:Int):StR × Int:=if who<0∨(c.s.length:Int)≤who then (⟨0,false,[]⟩,1) else ((rcD c.r.length D who.toNat).1,0)
theorem recK_len {c:StC} (hm:c.may) (D:Dsk) (who:Int):(recK c D who).1.bid.length≤1000:=by
 unfold recK
 split
 · show 0≤1000;decide
 · have h:=rc_bid c.r.length D who.toNat
   unfold bidB at h
   generalize (rcD c.r.length D who.toNat).1.bid=l at h ⊢
   rw [okB_eq,Bool.or_eq_true,decide_eq_true_eq,decide_eq_true_eq] at h
   show l.length≤1000
   rcases h with h | h
   · omega
   · obtain ⟨_,h8,hl,_⟩:=h
     omega
theorem rec_all (bs bd bl:Nat) (x:StA) (c:StC) (D:Dsk) (who:Int) (w:World) (h:IsStore w bs bd bl x c D) (hs:c.s.length≤1000) (hr:c.r.length≤1000000) :
   Calls Tryz.prog 30 #[.pointer (some ⟨bs,0,none⟩),.int .i64 who] w fun e w' => ∃ a,e=.returned (.tuple #[.agg #[.int .u32 (recK c D who).1.seq,.bool (recK c D who).1.stands,.slice a (recK c D who).1.bid.length (recK c D who).1.bid.length],.int .i64 (recK c D who).2])∧Below w.heap.size w w'∧NwI w.heap.size w' a (recK c D who).1.bid:=by
 by_cases hw:who<0∨(c.s.length:Int)≤who
 · have e:recK c D who=(⟨0,false,[]⟩,1):=if_pos hw
   rw [e]
   refine (record_bad bs bd bl x c D who w h hw).mono ?_
   rintro e w' ⟨rfl,hb⟩
   exact ⟨none,rfl,hb,0,World.ownsRow_nil w' w.heap.size 3 1⟩
 · have e:recK c D who=((rcD c.r.length D who.toNat).1,0):=if_neg hw
   rw [e]
   obtain ⟨k,rfl⟩:∃ k:Nat,who=(k:Int):=⟨who.toNat,by omega⟩
   refine (record_ok bs bd bl x c D k w h (by omega) hs hr).mono ?_
   rintro e w' ⟨a,rfl,hb,hn⟩
   exact ⟨a,rfl,hb,hn⟩
theorem rrec_all (ts B rd rl rc:Nat) (x:StA) (c:StC) (R:Dsk) (who:Int) (w:World) (h:IsRS w ts B rd rl rc x c R) (hs:c.s.length≤1000) (hr:c.r.length≤1000000) :
   Calls Tryz.prog 31 #[.pointer (some ⟨ts,0,none⟩),.int .i64 who] w fun e w' => ∃ (a:Option Addr) (m c':Nat),e=.returned (.tuple #[.agg #[.int .u32 (recK c R who).1.seq,.bool (recK c R who).1.stands,.slice a m c'],.int .i64 (recK c R who).2])∧Below w.heap.size w w'∧IsI w' a m c' (recK c R who).1.bid:=by
 by_cases hw:who<0∨(c.s.length:Int)≤who
 · have e:recK c R who=(⟨0,false,[]⟩,1):=if_pos hw
   rw [e]
   refine (rrec_bad ts B rd rl rc x c R who w h hw).mono ?_
   rintro e w' ⟨rfl,hb⟩
   exact ⟨none,0,0,rfl,hb,IsI.nil w'⟩
 · have e:recK c R who=((rcD c.r.length R who.toNat).1,0):=if_neg hw
   rw [e]
   obtain ⟨k,rfl⟩:∃ k:Nat,who=(k:Int):=⟨who.toNat,by omega⟩
   exact rrec_ok ts B rd rl rc x c R k w h (by omega) hs hr
theorem rset_all (ts B rd rl rc:Nat) (x:StA) (c:StC) (R:Dsk) (who:Int) (sq:Nat) (st:Bool) (a:Option Addr) (n cap:Nat) (l:List Int) (k:Int) (w:World) (h:IsRS w ts B rd rl rc x c R) (hI:IsI w a n cap l) (hsq:sq<4294967296) (hs:c.s.length≤8) (hr:c.r.length≤1000000) (hk:R.fine k) (hk2:k≤1000000000000000) (hlt:∀ i,i<c.s.length→(R.get ((12*(2+i):Nat):Int)).1<4294967296) :
   Calls Tryz.prog 27 #[.pointer (some ⟨ts,0,none⟩),.int .i64 who,.agg #[.int .u32 sq,.bool st,.slice a n cap]] w fun e w' => e=.returned (.int .i64 (setD c.s.length c.r.length R who ⟨sq,st,l⟩).1)∧Touch (fun k=>k=rd∨k=rl) w w'∧IsRef w' B rd rl rc (setD c.s.length c.r.length R who ⟨sq,st,l⟩).2:=by
 by_cases hw:who<0∨(c.s.length:Int)≤who
 · have e:setD c.s.length c.r.length R who ⟨sq,st,l⟩=(1,R):=if_pos hw
   rw [e]
   refine (rset_bad ts B rd rl rc x c R who sq st a n cap w h hw).mono ?_
   rintro e w' ⟨rfl,hb⟩
   exact ⟨rfl,Touch.of_below hb,h.disk.below hb⟩
 · obtain ⟨k',rfl⟩:∃ k:Nat,who=(k:Int):=⟨who.toNat,by omega⟩
   exact rset_ok ts B rd rl rc x c R k' sq st a n cap l k w h hI hsq (by omega) hs hr hk hk2 (hlt k' (by omega))
set_option maxHeartbeats 8000000 in
theorem twinR_tw (sq:Nat) (st:Bool) (a:Option Addr) (n cap:Nat) (l:List Int) (w:World) (hI:IsI w a n cap l) (hl:l.length≤1000000) :
   Calls Tryz.prog 25 #[.agg #[.int .u32 sq,.bool st,.slice a n cap]] w fun e w' => ∃ g,e=.returned (.agg #[.int .u32 sq,.bool st,.slice (some ⟨g,0,none⟩) l.length (l.length+1)])∧Below w.heap.size w w'∧TwI w' g l∧w.heap.size≤g:=by
 obtain rfl:=hI.1
 obtain ⟨hb0,m0,m1⟩:=alloc2_facts w (.cells #[.int .u32 sq,.bool st,.slice a l.length cap] 60 (0,0)) (.cells #[.int .u32 0,.bool false,.slice none 0 0] 60 (0,0))
 have HI:=Lib.hid (hI.below hb0)
 clear hI
 go_enter Tryz.func25,Tryz.ntmps25
 go_wp2_with fail
 generalize ((w.alloc (.cells #[.int .u32 sq,.bool st,.slice a l.length cap] 60)).alloc (.cells #[.int .u32 0,.bool false,.slice none 0 0] 60))=W at hb0 m0 m1 HI ⊢
 have c0:W.cell? ⟨w.heap.size,0,none⟩=some (.int .u32 sq):=by rw [cell_of_block m0];rfl
 have c1:W.cell? ⟨w.heap.size,1,none⟩=some (.bool st):=by rw [cell_of_block m0];rfl
 have c2:W.cell? ⟨w.heap.size,2,none⟩=some (.slice a l.length cap):=by rw [cell_of_block m0];rfl
 have HB:=Lib.hid hb0
 have M1:=Lib.hid m1
 have hd0:=(Below.refl W.heap.size W).drew
 have k0:W.drew.cell? ⟨w.heap.size,0,none⟩=some (.int .u32 sq):=c0
 have k1:W.drew.cell? ⟨w.heap.size,1,none⟩=some (.bool st):=c1
 have k2:W.drew.cell? ⟨w.heap.size,2,none⟩=some (.slice a l.length cap):=c2
 clear hb0 m0 m1
 go_region_law (first
   | (go_simp;go_at_call 13;refine (twinI_ex a l.length cap l W.drew (by omega) (HI.out.below hd0)).mono ?_;rintro e w1 ⟨g,rfl,hb1,htg,hgg⟩
      have hB1:Below W.heap.size W w1:=hd0.trans (hb1.mono hd0.size)
      have x0:w1.cell? ⟨w.heap.size,0,none⟩=some (.int .u32 sq):=cell_later hB1 c0
      have x1:w1.cell? ⟨w.heap.size,1,none⟩=some (.bool st):=cell_later hB1 c1
      have x2:w1.cell? ⟨w.heap.size,2,none⟩=some (.slice a l.length cap):=cell_later hB1 c2
      have vm:=below_heap hB1 M1.out (lt_of_heap M1.out)
      have y0:w1.cell? ⟨w.heap.size+1,0,none⟩=some (.int .u32 0):=(by rw [cell_of_block vm];rfl)
      have y1:w1.cell? ⟨w.heap.size+1,1,none⟩=some (.bool false):=(by rw [cell_of_block vm];rfl)
      have y2:w1.cell? ⟨w.heap.size+1,2,none⟩=some (.slice none 0 0):=(by rw [cell_of_block vm];rfl)
      have yf0:w1.frozen? ⟨w.heap.size+1,0,none⟩=false:=blk_free vm
      have yf1:w1.frozen? ⟨w.heap.size+1,1,none⟩=false:=blk_free vm
      have yf2:w1.frozen? ⟨w.heap.size+1,2,none⟩=false:=blk_free vm
      clear hb1)
   | fail)
 all_goals
   obtain ⟨s1,s2⟩:=set3_same (v0:=.int .u32 (sq:Int)) (v1:=.bool st) (v2:=.slice (some ⟨g,0,none⟩) l.length (l.length+1)) vm
   have hWs:w.heap.size+1<W.heap.size:=lt_of_heap M1.out
   have hg2:W.heap.size≤g:=hgg
   have HE:=Lib.hid (And.intro (HB.out.trans ((hB1.mono HB.out.size).trans (s2.below (Nat.le_trans HB.out.size hB1.size) (fun k hk e=>by omega)))) (show TwI _ g l from s2.heap htg (by omega)))
   clear hB1 x0 x1 x2 y0 y1 y2 yf0 yf1 yf2 htg hd0 k0 k1 k2 c0 c1 c2
   generalize (((w1.setCell ⟨w.heap.size+1,0,none⟩ (.int .u32 (sq:Int))).setCell ⟨w.heap.size+1,1,none⟩ (.bool st)).setCell ⟨w.heap.size+1,2,none⟩ (.slice (some ⟨g,0,none⟩) l.length (l.length+1)))=w2 at s1 s2 HE ⊢
   have q0:w2.cell? ⟨w.heap.size+1,0,none⟩=some (.int .u32 (sq:Int)):=by rw [cell_of_block s1];rfl
   have q1:w2.cell? ⟨w.heap.size+1,1,none⟩=some (.bool st):=by rw [cell_of_block s1];rfl
   have q2:w2.cell? ⟨w.heap.size+1,2,none⟩=some (.slice (some ⟨g,0,none⟩) l.length (l.length+1)):=by rw [cell_of_block s1];rfl
   clear s2 vm
   have s1':=s1
   clear s1
   go_wp2_with fail
   refine bodyPost_ret (results_cell rfl _ _ (w.heap.size+1) 0 rfl [.int .u32 (sq:Int),.bool st,.slice (some ⟨g,0,none⟩) l.length (l.length+1)] _ (rangeAt_row s1') Tryz.underlying60 rfl info_rec) rfl ?_
   exact ⟨g,rfl,HE.out.1,HE.out.2,by omega⟩
set_option maxHeartbeats 4000000 in
theorem leftR_any (sq g:Nat) (st:Bool) (a:Option Addr) (n cap:Nat) (l:List Int) (w:World) (hI:IsI w a n cap l) (hl:l.length≤1000000) (ht:TwI w g l) :
   Calls Tryz.prog 28 #[.agg #[.int .u32 sq,.bool st,.slice (some ⟨g,0,none⟩) l.length (l.length+1)],.agg #[.int .u32 sq,.bool st,.slice a n cap]] w fun e w' => e=.returned (.bool true)∧Below w.heap.size w w':=by
 obtain rfl:=hI.1
 obtain ⟨hb0,m0,m1⟩:=alloc2_facts w (.cells #[.int .u32 sq,.bool st,.slice (some ⟨g,0,none⟩) l.length (l.length+1)] 60 (0,0)) (.cells #[.int .u32 sq,.bool st,.slice a l.length cap] 60 (0,0))
 have HI:=Lib.hid (hI.below hb0)
 have HT:Hid (TwI _ g l):=Lib.hid (below_heap hb0 ht (lt_of_heap ht))
 have HB:=Lib.hid hb0
 clear hI ht hb0
 go_enter Tryz.func28,Tryz.ntmps28
 go_wp2_with fail
 generalize ((w.alloc (.cells #[.int .u32 sq,.bool st,.slice (some ⟨g,0,none⟩) l.length (l.length+1)] 60)).alloc (.cells #[.int .u32 sq,.bool st,.slice a l.length cap] 60))=W at m0 m1 HI HT HB ⊢
 have c0:W.cell? ⟨w.heap.size,0,none⟩=some (.int .u32 sq):=by rw [cell_of_block m0];rfl
 have c1:W.cell? ⟨w.heap.size,1,none⟩=some (.bool st):=by rw [cell_of_block m0];rfl
 have c2:W.cell? ⟨w.heap.size,2,none⟩=some (.slice (some ⟨g,0,none⟩) l.length (l.length+1)):=by rw [cell_of_block m0];rfl
 have d0:W.cell? ⟨w.heap.size+1,0,none⟩=some (.int .u32 sq):=by rw [cell_of_block m1];rfl
 have d1:W.cell? ⟨w.heap.size+1,1,none⟩=some (.bool st):=by rw [cell_of_block m1];rfl
 have d2:W.cell? ⟨w.heap.size+1,2,none⟩=some (.slice a l.length cap):=by rw [cell_of_block m1];rfl
 have e1:((sq:Int) == (sq:Int))=true:=by simp
 have e2:(st == st)=true:=by simp
 clear m0 m1
 go_wp2_with fail
 refine (leftI_any g a l.length cap l _ (by omega) HI.out HT.out.twin).mono ?_;rintro e w1 ⟨rfl,hb1⟩
 have HB1:=Lib.hid (HB.out.trans (hb1.mono HB.out.size))
 clear hb1
 go_wp2_with fail
 go_ret
 exact ⟨rfl,HB1.out⟩
def CfP (B rd rl:Nat) (w:World) (y:StA) (c:StC):Prop:=IsCf w (fun k=>B≤k∧TyC w k∧¬ (k=rd∨k=rl)) y c
theorem CfP.touch {B rd rl:Nat} {S:Nat→Prop} {w w':World} {y:StA} {c:StC} (h:CfP B rd rl w y c) (ht:Touch S w w') (hs:∀ k,B≤k→TyC w k→¬ (k=rd∨k=rl)→¬ S k):CfP B rd rl w' y c :=
 (IsCf.touch h ht (fun k hk=>hs k hk.1 hk.2.1 hk.2.2)).imp (fun k hk=>⟨hk.1,hk.2.1.touch ht (hs k hk.1 hk.2.1 hk.2.2),hk.2.2⟩)
theorem CfP.below {B rd rl:Nat} {w w':World} {y:StA} {c:StC} (h:CfP B rd rl w y c) (hb:Below w.heap.size w w'):CfP B rd rl w' y c:=h.touch (Touch.of_below (S:=fun _=>False) hb) (fun _ _ _ _ h=>h)
theorem CfP.of {B B' rd rl:Nat} {w:World} {y:StA} {c:StC} (h:CfT B w y c) (hB:B'≤B) (h1:rd<B) (h2:rl<B):CfP B' rd rl w y c:=IsCf.imp h (fun k hk=>⟨Nat.le_trans hB hk.1,hk.2,fun e=>by have:=hk.1;omega⟩)
structure StB (W w:World) (bd bl rd rl rc bs ts:Nat) (x y:StA) (c:StC) (D R:Dsk):Prop where
 ps:IsStore w bs bd bl x c D
 rs:IsRS w ts W.heap.size rd rl rc y c R
 may:mayB c=true
 px:CfP W.heap.size rd rl w x c
 py:CfP W.heap.size rd rl w y c
theorem StB.after {W w w':World} {bd bl rd rl rc bs ts:Nat} {x y:StA} {c:StC} {D R:Dsk} (h:StB W w bd bl rd rl rc bs ts x y c D R) (hb:Below w.heap.size w w'):StB W w' bd bl rd rl rc bs ts x y c D R :=
 ⟨h.ps.below hb,h.rs.below hb,h.may,h.px.below hb,h.py.below hb⟩
theorem TyC.noD {w:World} {bd bl k:Nat} {D:Dsk} (h:TyC w k) (hd:IsDisk w bd bl D):¬ (k=bd∨k=bl):=by
 obtain ⟨cur,t,fz,h1,h2⟩:=h
 rcases h2 with rfl | rfl | rfl
 · exact diskNe hd h1 (by decide) (by decide)
 · exact diskNe hd h1 (by decide) (by decide)
 · exact diskNe hd h1 (by decide) (by decide)
theorem IsStore.away {w w':World} {S:Nat→Prop} {B rd rl bs bd bl:Nat} {x:StA} {c:StC} {D:Dsk} (h:IsStore w bs bd bl x c D) (hp:CfP B rd rl w x c) (ht:Touch S w w') (h1:¬ S bs) (h2:¬ S bd) (h3:¬ S bl) (h4:∀ k,B≤k→TyC w k→¬ (k=rd∨k=rl)→¬ S k):IsStore w' bs bd bl x c D :=
 ⟨ht.heap h.cells h1,h.disk.touch ht h2 h3,((h.cfg.both hp).touch ht (fun k hk=>h4 k hk.2.1 hk.2.2.1 hk.2.2.2)).imp (fun k hk=>hk.1),h.ne⟩
theorem IsRS.away {w w':World} {S:Nat→Prop} {B B' ts rd rl rc:Nat} {x:StA} {c:StC} {R:Dsk} (h:IsRS w ts B rd rl rc x c R) (hp:CfP B' rd rl w x c) (ht:Touch S w w') (h1:¬ S ts) (h2:NoRef w S) (h4:∀ k,B'≤k→TyC w k→¬ (k=rd∨k=rl)→¬ S k):IsRS w' ts B rd rl rc x c R :=
 ⟨ht.heap h.cells h1,h.disk.touch ht h2,((h.cfg.both hp).touch ht (fun k hk=>h4 k hk.2.1 hk.2.2.1 hk.2.2.2)).imp (fun k hk=>hk.1),h.ne⟩
theorem StB.first {W w w1:World} {bd bl rd rl rc bs ts:Nat} {x y:StA} {c:StC} {D R D':Dsk} (h:StB W w bd bl rd rl rc bs ts x y c D R) (h1:Touch (fun k=>k=bd∨k=bl) w w1) (hd:IsDisk w1 bd bl D'):StB W w1 bd bl rd rl rc bs ts x y c D' R :=
 ⟨h.ps.put h1 hd,h.rs.away h.py h1 (diskNe h.ps.disk h.rs.cells (by decide) (by decide)) (noRefD h.ps.disk) (fun k _ hk _=>hk.noD h.ps.disk),h.may,h.px.touch h1 (fun k _ hk _=>hk.noD h.ps.disk),h.py.touch h1 (fun k _ hk _=>hk.noD h.ps.disk)⟩
theorem StB.second {W w w1:World} {bd bl rd rl rc bs ts:Nat} {x y:StA} {c:StC} {D R R':Dsk} (h:StB W w bd bl rd rl rc bs ts x y c D R) (h1:Touch (fun k=>k=rd∨k=rl) w w1) (hd:IsRef w1 W.heap.size rd rl rc R'):StB W w1 bd bl rd rl rc bs ts x y c D R' :=
 ⟨h.ps.away h.px h1 (refNe h.rs.disk h.ps.cells (by decide) (by decide)) (refNe h.rs.disk h.ps.disk.cells (by decide) (by decide)) (refNe h.rs.disk h.ps.disk.row (by decide) (by decide)) (fun k _ _ hk=>hk),h.rs.put h1 hd,h.may,h.px.touch h1 (fun k _ _ hk=>hk),h.py.touch h1 (fun k _ _ hk=>hk)⟩
theorem StB.kept {W w w1:World} {bd bl rd rl rc bs ts:Nat} {x y:StA} {c:StC} {D R:Dsk} (h:StB W w bd bl rd rl rc bs ts x y c D R) (h1:Touch (BkS w W.heap.size) w w1):StB W w1 bd bl rd rl rc bs ts x y c D R :=
 ⟨h.ps.away h.px h1 (bkS_not h.ps.cells (by decide) (fun κ=>by cases κ <;> decide)) (bkS_not h.ps.disk.cells (by decide) (fun κ=>by cases κ <;> decide)) (bkS_not h.ps.disk.row (by decide) (fun κ=>by cases κ <;> decide)) (fun k _ hk _=>hk.noBk),
  h.rs.away h.py h1 (bkS_not h.rs.cells (by decide) (fun κ=>by cases κ <;> decide)) noRefK (fun k _ hk _=>hk.noBk),h.may,h.px.touch h1 (fun k _ hk _=>hk.noBk),h.py.touch h1 (fun k _ hk _=>hk.noBk)⟩
def Prs (W w:World) (bd bl rd rl rc:Nat) (s t:Value) (D R:Dsk):Prop :=
 (s=.pointer none∧t=.pointer none)∨∃ (bs ts:Nat) (x y:StA) (c:StC),s=.pointer (some ⟨bs,0,none⟩)∧t=.pointer (some ⟨ts,0,none⟩)∧StB W w bd bl rd rl rc bs ts x y c D R
theorem Prs.after {W w w':World} {bd bl rd rl rc:Nat} {s t:Value} {D R:Dsk} (h:Prs W w bd bl rd rl rc s t D R) (hb:Below w.heap.size w w'):Prs W w' bd bl rd rl rc s t D R:=by
 rcases h with h | ⟨bs,ts,x,y,c,h1,h2,h3⟩
 · exact .inl h
 · exact .inr ⟨bs,ts,x,y,c,h1,h2,h3.after hb⟩
theorem Prs.both {W w w1 w2:World} {bd bl rd rl rc:Nat} {s t:Value} {D R D' R':Dsk} (h:Prs W w bd bl rd rl rc s t D R) (h1:Touch (fun k=>k=bd∨k=bl) w w1) (hd:IsDisk w1 bd bl D') (h2:Touch (fun k=>k=rd∨k=rl) w1 w2) (hr:IsRef w2 W.heap.size rd rl rc R'):Prs W w2 bd bl rd rl rc s t D' R':=by
 rcases h with h | ⟨bs,ts,x,y,c,e1,e2,h3⟩
 · exact .inl h
 · exact .inr ⟨bs,ts,x,y,c,e1,e2,(h3.first h1 hd).second h2 hr⟩
theorem IsRef.lowr {w:World} {B B' rd rl rc:Nat} {R:Dsk} (h:IsRef w B rd rl rc R) (hB:B'≤B):IsRef w B' rd rl rc R:=by
 obtain ⟨gs,g1,g2,g3,g4⟩:=h.row
 exact ⟨Nat.le_trans hB h.le,h.pos,h.most,h.secs,h.cells,gs,g1,owns_low g2 hB,fun i hi hi' => ⟨(g3 i hi hi').1,Nat.le_trans hB (g3 i hi hi').2⟩,g4⟩
theorem QSt.copied {W w w3 w4:World} {bd bl rd rl rc bk c cd cl sd sl sc:Nat} {D R D' R':Dsk} (h:QSt W w bd bl rd rl rc bk c D R) (hb3:Below w.heap.size w w3) (k1:w.heap.size≤cd) (k2:w.heap.size≤cl) (hc3:IsDisk w3 cd cl D')
   (hb4:Below w3.heap.size w3 w4) (hr4:IsRef w4 w3.heap.size sd sl sc R') (hs:Same D' R'):QSt W w4 cd cl sd sl sc bk c D' R':=by
 have h0:=h.below.size
 have h3:=hb3.size
 have hB:=h.book.andTop
 have hlt:=hr4.lt
 have hle:=hr4.le
 refine ⟨(h.below.trans (hb3.mono h0)).trans (hb4.mono (by omega)),hc3.touch (Touch.of_below (S:=fun _=>False) hb4) id id,⟨by omega,by omega⟩,hr4.lowr (by omega),hs,?_⟩
 refine ((hB.below hb3).below hb4).mono (fun k hk=>⟨?_,fun e => ?_⟩) (Nat.le_refl _)
 · have:=hb4.size;omega
 · rcases e with e | e <;> omega
section
open Go.ChangeShapes Go.WideShapes Go.ChangeAt Go.RowKit Go.Deep
theorem len5 {α:Type} (l:List α) (h:l.length=5):∃ a b c d e,l=[a,b,c,d,e]:=by
 match l,h with
 | [a,b,c,d,e],_=>exact ⟨a,b,c,d,e,rfl⟩
theorem len8 {α:Type} (l:List α) (h:l.length=8):∃ a b c d e f g i,l=[a,b,c,d,e,f,g,i]:=by
 match l,h with
 | [a,b,c,d,e,f,g,i],_=>exact ⟨a,b,c,d,e,f,g,i,rfl⟩
theorem piece {α:Type} (cs:List α) (k n:Nat):cs.drop k=(cs.drop k).take n ++ cs.drop (k+n):=by
 rw [← List.drop_drop,List.take_append_drop]
section
variable {H:Type} {enc:TypeId × Value→H} {W:World} {base b0:Nat} {held:Bool} {r:Reach}
theorem g_u8 {n:Nat} {t:TypeId} {cs:List Value} {y:DataW H × List MemPlace} (ht:Tryz.prog.underlying t=some (.int .u8)) (h:DataW.trod enc Tryz.prog W base (fun _=>true) held n t cs=some y):∃ x:UInt8,cs=[.int .u8 x.toNat]:=by
 obtain ⟨z,hz,_,hw⟩:=DataW.trod_int ht h
 obtain ⟨x,rfl,hx⟩:=u8_nat hw
 exact ⟨UInt8.ofNat x,by rw [show (UInt8.ofNat x).toNat=x by simp;omega];exact hz⟩
theorem g_u32 {n:Nat} {t:TypeId} {cs:List Value} {y:DataW H × List MemPlace} (ht:Tryz.prog.underlying t=some (.int .u32)) (h:DataW.trod enc Tryz.prog W base (fun _=>true) held n t cs=some y):∃ x:UInt32,cs=[.int .u32 x.toNat]:=by
 obtain ⟨z,hz,_,hw⟩:=DataW.trod_int ht h
 obtain ⟨x,rfl,hx⟩:=u32_nat hw
 exact ⟨UInt32.ofNat x,by rw [show (UInt32.ofNat x).toNat=x by simp;omega];exact hz⟩
theorem g_u64 {n:Nat} {t:TypeId} {cs:List Value} {y:DataW H × List MemPlace} (ht:Tryz.prog.underlying t=some (.int .u64)) (h:DataW.trod enc Tryz.prog W base (fun _=>true) held n t cs=some y):∃ x:UInt64,cs=[.int .u64 x.toNat]:=by
 obtain ⟨z,hz,_,hw⟩:=DataW.trod_int ht h
 obtain ⟨x,rfl,hx⟩:=u64_nat hw
 exact ⟨UInt64.ofNat x,by rw [show (UInt64.ofNat x).toNat=x by simp;omega];exact hz⟩
theorem g_bytes {n:Nat} {t e:TypeId} {cs:List Value} {y:DataW H × List MemPlace} (ht:Tryz.prog.underlying t=some (.slice e)) (he:Tryz.prog.underlying e=some (.int .u8)) (hc:Tryz.prog.cellsOf e=1)
   (h:DataW.trod enc Tryz.prog W base (fun _=>true) held n t cs=some y):∃ a n c l,cs=[.slice a n c]∧IsB W a n c l∧l.length≤Rows.uptoBulk y.1:=by
 have hs:∃ u,cs=[u]:=by
   rcases open_ints ht he hc h with ⟨hcs,_⟩ | ⟨x,l,c,zs,hcs,_⟩
   · exact ⟨_,hcs⟩
   · exact ⟨_,hcs⟩
 obtain ⟨u,rfl⟩:=hs
 obtain ⟨a,n,c,l,rfl,h1,h2⟩:=field_bytes ht he hc h
 exact ⟨a,n,c,l,rfl,h1,h2⟩
theorem g_ints {n:Nat} {t e:TypeId} {cs:List Value} {y:DataW H × List MemPlace} (ht:Tryz.prog.underlying t=some (.slice e)) (he:Tryz.prog.underlying e=some (.int .i64)) (hc:Tryz.prog.cellsOf e=1)
   (h:DataW.trod enc Tryz.prog W base (fun _=>true) held n t cs=some y):∃ a n c l,cs=[.slice a n c]∧IsI W a n c l∧l.length≤Rows.uptoBulk y.1:=by
 rcases open_ints ht he hc h with ⟨hcs,_⟩ | ⟨x,l,c,zs,hcs,_,hl,hm,hz,hy,hcell,hwz⟩
 · exact ⟨none,0,0,[],hcs,IsI.nil W,Nat.zero_le _⟩
 · have hL:=isI_of_ints (a:=some x) x zs rfl hl hm (by simpa using hz) hcell
   refine ⟨_,_,_,_,hcs,hL,?_⟩
   rw [hy,← hL.1]
   have hzc:zs.length=c:=by simpa using hz
   refine Nat.le_trans ?_ (bulks.slice_le _ _)
   simp [lits]
   omega
theorem g_bss {n:Nat} {t e e2:TypeId} {cs:List Value} {y:DataW H × List MemPlace} (ht:Tryz.prog.underlying t=some (.slice e)) (he:Tryz.prog.underlying e=some (.slice e2)) (he2:Tryz.prog.underlying e2=some (.int .u8)) (hc:Tryz.prog.cellsOf e=1) (hc2:Tryz.prog.cellsOf e2=1)
   (h:DataW.trod enc Tryz.prog W base (fun _=>true) held n t cs=some y) (K:Nat) (hK:Rows.uptoBulk y.1≤K):∃ a n c L,cs=[.slice a n c]∧IsBB W 0 a n c L∧L.length≤K∧∀ l ∈ L,l.length≤K:=by
 rcases open_slice1 ht hc h with ⟨hcs,_⟩ | ⟨x,len,cap,m,n',V,D,Pl,hcs,_,hl,hm,hmm,hy,hx⟩
 · exact ⟨none,0,0,[],hcs,⟨rfl,Nat.le_refl _,by decide,.inl rfl⟩,Nat.zero_le _,fun l hl=>by cases hl⟩
 · have hy1:y.1=.slice ((List.range len).map D) ((List.range (m - len)).map fun j=>D (len+j)):=congrArg Prod.fst hy
   rw [hy1] at hK
   have hel:=Nat.le_trans (bulks.slice_elems _ _) hK
   have hlen:len≤K:=by
     have:=Nat.le_trans (bulks.slice_le _ _) hK
     simp at this
     omega
   have hDi:∀ i,i<len→Rows.uptoBulk (D i)≤K:=fun i hi=>by
     have:=bulks.part_le (List.mem_map.2 ⟨i,List.mem_range.2 hi,rfl⟩:D i ∈ (List.range len).map D)
     omega
   have hlm:len≤m:=by rw [hmm];simp;exact hl
   by_cases h0:len=0
   · subst h0
     exact ⟨_,_,_,[],hcs,⟨rfl,Nat.zero_le _,hm,.inl rfl⟩,Nat.zero_le _,fun x hx=>by cases hx⟩
   obtain ⟨L,hL,hp⟩:=choose_list (α:=List UInt8) len (fun i l=>l.length≤K∧∃ u,W.cell? (x.add i)=some u∧ReadAs W 0 u l) (fun i hi=>by
     obtain ⟨q1,q2⟩:=hx i (by omega)
     obtain ⟨a,n,c,l,e1,h1,h2⟩:=g_bytes he he2 hc2 q2
     have hd:=hDi i hi
     simp at e1
     exact ⟨l,Nat.le_trans h2 hd,V i,q1,a,n,c,e1,h1,fun _ _ _ _=>Nat.zero_le _⟩)
   have h00:=(hp 0 (by omega)).2
   obtain ⟨u0,h00,_⟩:=h00
   rw [show x.add 0=x by simp [Addr.add]] at h00
   obtain ⟨hsp,hlt⟩:=addr_spot h00
   obtain ⟨b,off,spot⟩:=x
   simp at hsp
   subst hsp
   refine ⟨_,_,_,L,hcs,⟨hL.symm,by omega,hm,.inr ⟨b,off,rfl,Nat.zero_le _,hlt,fun i hi => ?_⟩⟩,by omega,fun l hl => ?_⟩
   · obtain ⟨u,h1,h2⟩:=(hp i hi).2
     rw [addr_add] at h1
     exact ⟨u,h1,h2⟩
   · obtain ⟨i,hi,rfl⟩:=List.getElem_of_mem hl
     exact (hp i hi).1
theorem g_i64 {n:Nat} {t:TypeId} {cs:List Value} {y:DataW H × List MemPlace} (ht:Tryz.prog.underlying t=some (.int .i64)) (h:DataW.trod enc Tryz.prog W base (fun _=>true) held n t cs=some y):∃ x:Int,cs=[.int .i64 x]∧-9223372036854775808≤x∧x≤9223372036854775807:=by
 obtain ⟨z,hz,_,hw⟩:=DataW.trod_int ht h
 exact ⟨z,hz,i64_bounds hw⟩
theorem g_bool {n:Nat} {t:TypeId} {cs:List Value} {y:DataW H × List MemPlace} (ht:Tryz.prog.underlying t=some .bool) (h:DataW.trod enc Tryz.prog W base (fun _=>true) held n t cs=some y):∃ x:Bool,cs=[.bool x]:=by
 obtain ⟨z,hz,_⟩:=DataW.trod_bool ht h
 exact ⟨z,hz⟩
theorem g_rec {n:Nat} {cs:List Value} {y:DataW H × List MemPlace} (h:DataW.trod enc Tryz.prog W base (fun _=>true) held n 60 cs=some y):∃ x:RcV,cs=x.cells∧x.sq<4294967296∧IsI W x.a x.n x.c x.l∧x.l.length≤Rows.uptoBulk y.1:=by
 obtain ⟨xs,k,hk,hxy,hcl,hxl,hf⟩:=DataW.trod_struct Tryz.underlying60 h
 have hcl':cs.length=3:=hcl.trans (by kernel_rfl)
 have kk:∀ t i m,Tryz.prog.cellsOf t=m→∀ z:DataW H × List MemPlace,DataW.trod enc Tryz.prog W base (fun _=>true) held k t ((cs.drop i).take (Tryz.prog.cellsOf t))=some z→DataW.trod enc Tryz.prog W base (fun _=>true) held k t ((cs.drop i).take m)=some z:=fun t i m ht z h=>by rwa [ht] at h
 obtain ⟨y0,y1,y2,rfl⟩:∃ a b c,xs=[a,b,c]:=by
   match xs,hxl with
   | [a,b,c],_=>exact ⟨a,b,c,rfl⟩
 have hy:y.1=.agg [y0.1,y1.1,y2.1]:=by rw [hxy];rfl
 obtain ⟨z0,e0⟩:=g_u32 Tryz.underlying58 (kk 58 0 1 (by kernel_rfl) _ (hf 0 _ rfl))
 obtain ⟨z1,e1⟩:=g_bool Tryz.underlying4 (kk 4 1 1 (by kernel_rfl) _ (hf 1 _ rfl))
 obtain ⟨a,m,c,l,e2,h2,b2⟩:=g_ints Tryz.underlying22 Tryz.underlying3 (by kernel_rfl) (kk 22 2 1 (by kernel_rfl) _ (hf 2 _ rfl))
 refine ⟨⟨z0.toNat,z1,a,m,c,l⟩,?_,z0.toNat_lt,h2,?_⟩
 · have e:cs=cs.drop 0:=rfl
   rw [e,piece cs 0 1,e0,piece cs (0+1) 1,e1,piece cs (0+1+1) 1,e2,List.drop_eq_nil_of_le (by omega)]
   rfl
 · rw [hy]
   simp only [Rows.uptoBulk,Rows.uptoBulkAll]
   omega
theorem open_cfgK {v:Value} {d:DataW H} {p:List MemPlace} (hv:Value.okWide Tryz.prog W r b0 27 v) (h:DataW.Trod enc Tryz.prog W base (fun _=>true) held 27 v d p) (K:Nat) (hK:Rows.uptoBulk d≤K) :
   ∃ (x:CfgA) (cf:CfgD),v=.agg (x.cells cf.t).toArray∧IsCfg W 0 x cf∧CfgSm cf K:=by
 obtain ⟨cs,rfl,hsz⟩:=okWide_struct Tryz.underlying27 hv
 obtain ⟨fuel,hf⟩:=h
 obtain ⟨xs,n,_,hx,hcl,hxl,hg⟩:=DataW.trod_struct Tryz.underlying27 hf
 have hx1:d=.agg (xs.map (·.1)):=congrArg Prod.fst hx
 have hcl':cs.toList.length=5:=hcl.trans (by kernel_rfl)
 have ecs:(Value.agg cs).cells.toList=cs.toList:=rfl
 rw [ecs] at hg
 obtain ⟨y0,y1,y2,y3,y4,rfl⟩:=len5 xs hxl
 have k:∀ t i,Tryz.prog.cellsOf t=1→∀ z:DataW H × List MemPlace,DataW.trod enc Tryz.prog W base (fun _=>true) held n t ((cs.toList.drop i).take (Tryz.prog.cellsOf t))=some z→DataW.trod enc Tryz.prog W base (fun _=>true) held n t ((cs.toList.drop i).take 1)=some z:=fun t i ht z h=>by rwa [ht] at h
 rw [hx1] at hK
 simp only [List.map_cons,List.map_nil,Rows.uptoBulk,Rows.uptoBulkAll] at hK
 obtain ⟨ra,rn,rc,rl,e0,h0,b0'⟩:=g_ints Tryz.underlying22 Tryz.underlying3 (by kernel_rfl) (k 22 0 (by kernel_rfl) _ (hg 0 _ rfl))
 obtain ⟨sa,sn,sc,sl,e1,h1,b1,b1'⟩:=g_bss Tryz.underlying23 Tryz.underlying24 Tryz.underlying5 (by kernel_rfl) (by kernel_rfl) (k 23 1 (by kernel_rfl) _ (hg 1 _ rfl)) K (by omega)
 obtain ⟨aa,an,ac,al,e2,h2,b2⟩:=g_bytes Tryz.underlying24 Tryz.underlying5 (by kernel_rfl) (k 24 2 (by kernel_rfl) _ (hg 2 _ rfl))
 obtain ⟨ua,un,uc,ul,e3,h3,b3⟩:=g_bytes Tryz.underlying24 Tryz.underlying5 (by kernel_rfl) (k 24 3 (by kernel_rfl) _ (hg 3 _ rfl))
 obtain ⟨tv,e4⟩:=g_u64 Tryz.underlying25 (k 25 4 (by kernel_rfl) _ (hg 4 _ rfl))
 refine ⟨⟨ra,rn,rc,sa,sn,sc,aa,an,ac,ua,un,uc⟩,⟨rl,sl,al,ul,tv⟩,?_,⟨h0,h1,h2,h3⟩,⟨by dsimp only;omega,b1,b1',by dsimp only;omega,by dsimp only;omega⟩⟩
 have ec:cs.toList=CfgA.cells ⟨ra,rn,rc,sa,sn,sc,aa,an,ac,ua,un,uc⟩ tv:=by
   have e:cs.toList=cs.toList.drop 0:=rfl
   rw [e,piece cs.toList 0 1,e0,piece cs.toList (0+1) 1,e1,piece cs.toList (0+1+1) 1,e2,piece cs.toList (0+1+1+1) 1,e3,piece cs.toList (0+1+1+1+1) 1,e4,List.drop_eq_nil_of_le (by omega)]
   rfl
 dsimp only
 rw [← ec]
theorem cfg_stc {x:CfgA} {cf:CfgD} (h:IsCfg W 0 x cf):∃ (y:StA) (c:StC),y.cells c.t=x.cells cf.t∧y.g=x∧c.d=cf∧IsCf W (fun k=>k<W.heap.size) y c:=by
 obtain ⟨vs,hs⟩:=IsBBp.of h.s
 refine ⟨⟨x.ra,x.rn,x.rc,x.sa,x.sn,x.sc,vs,x.aa,x.an,x.ac,x.ua,x.un,x.uc⟩,⟨cf.r,cf.s,cf.a,cf.u,cf.t.toNat⟩,rfl,rfl,?_,⟨⟨h.r,h.r.ltSize⟩,hs,⟨h.a,h.a.ltSize⟩,⟨h.u,h.u.ltSize⟩,cf.t.toNat_lt⟩⟩
 unfold StC.d
 simp
theorem open_AcV {a:Option Addr} {len cap:Nat} {d:DataW H} {p:List MemPlace} (h:DataW.Trod enc Tryz.prog W base (fun _=>true) held 28 (.slice a len cap) d p) (K:Nat) (hK:Rows.uptoBulk d≤K) (hK2:K≤1048576) :
   ∃ L,IsRows AcV.cells 10 W a len cap L∧L.length≤K∧(∀ x ∈ L,AcOk W x)∧∀ x ∈ L,AcSm x:=by
 obtain ⟨fuel,hf⟩:=h
 have ce:Tryz.prog.cellsOf 63=10:=by kernel_rfl
 rcases open_slice Tryz.underlying28 hf with ⟨hcs,_⟩ | ⟨x,l,c,m,n,D,Pl,hcs,_,hl,hm,hmm,hd,hx⟩
 · simp [Value.cells] at hcs
   obtain ⟨rfl,rfl,rfl⟩:=hcs
   exact ⟨[],⟨rfl,Nat.le_refl _,by decide,.inl rfl⟩,Nat.zero_le _,(fun x hx=>by cases hx),(fun x hx=>by cases hx)⟩
 · simp [Value.cells] at hcs
   obtain ⟨rfl,rfl,rfl⟩:=hcs
   have hd1:d=.slice ((List.range len).map D) ((List.range (m - len)).map fun j=>D (len+j)):=congrArg Prod.fst hd
   rw [hd1] at hK
   have hel:=Nat.le_trans (bulks.slice_elems _ _) hK
   have hlen:len≤K:=by
     have:=Nat.le_trans (bulks.slice_le _ _) hK
     simp at this
     omega
   have hDi:∀ i,i<len→Rows.uptoBulk (D i)≤K:=fun i hi=>by
     have:=bulks.part_le (List.mem_map.2 ⟨i,List.mem_range.2 hi,rfl⟩:D i ∈ (List.range len).map D)
     omega
   by_cases h0:len=0
   · subst h0
     exact ⟨[],⟨rfl,Nat.zero_le _,hm,.inl rfl⟩,Nat.zero_le _,(fun x hx=>by cases hx),(fun x hx=>by cases hx)⟩
   have hlm:len≤m:=by rw [hmm];simp;exact hl
   obtain ⟨L,hL,hp⟩:=choose_list (α:=AcV) len (fun i q=>AcOk W q∧AcSm q∧∀ j v,(q.cells)[j]?=some v→W.cell? (x.add (i*10+j))=some v) (fun i hi=>by
     obtain ⟨cs',h1,h2⟩:=hx i (by omega)
     rw [ce] at h1
     obtain ⟨_,hlen3,hcell⟩:=World.cells?_some h1
     obtain ⟨xs,k,hk,hxy,_,hxl,hf3⟩:=DataW.trod_struct Tryz.underlying63 h2
     obtain ⟨y0,y1,y2,y3,y4,y5,y6,y7,rfl⟩:=len8 xs hxl
     have kk:∀ t i m,Tryz.prog.cellsOf t=m→∀ z:DataW H × List MemPlace,DataW.trod enc Tryz.prog W base (fun _=>true) held k t ((cs'.drop i).take (Tryz.prog.cellsOf t))=some z→DataW.trod enc Tryz.prog W base (fun _=>true) held k t ((cs'.drop i).take m)=some z:=fun t i m ht z h=>by rwa [ht] at h
     have hDe:D i=.agg [y0.1,y1.1,y2.1,y3.1,y4.1,y5.1,y6.1,y7.1]:=by simpa using congrArg Prod.fst hxy
     have hDK:=hDi i hi
     rw [hDe] at hDK
     simp only [Rows.uptoBulk,Rows.uptoBulkAll] at hDK
     obtain ⟨z0,e0⟩:=g_u8 Tryz.underlying5 (kk 5 0 1 (by kernel_rfl) _ (hf3 0 _ rfl))
     obtain ⟨z1,e1,m1,m1'⟩:=g_i64 Tryz.underlying3 (kk 3 1 1 (by kernel_rfl) _ (hf3 1 _ rfl))
     obtain ⟨r,e2,q2,hr2,b2⟩:=g_rec (kk 60 2 3 (by kernel_rfl) _ (hf3 2 _ rfl))
     obtain ⟨z3,e3⟩:=g_u8 Tryz.underlying61 (kk 61 5 1 (by kernel_rfl) _ (hf3 3 _ rfl))
     obtain ⟨oa,on,oc,ol,e4,h4,b4⟩:=g_ints Tryz.underlying22 Tryz.underlying3 (by kernel_rfl) (kk 22 6 1 (by kernel_rfl) _ (hf3 4 _ rfl))
     obtain ⟨z5,e5,m5,m5'⟩:=g_i64 Tryz.underlying3 (kk 3 7 1 (by kernel_rfl) _ (hf3 5 _ rfl))
     obtain ⟨z6,e6,m6,m6'⟩:=g_i64 Tryz.underlying3 (kk 3 8 1 (by kernel_rfl) _ (hf3 6 _ rfl))
     obtain ⟨ba,bn,bc,bl,e7,h7,b7⟩:=g_bytes Tryz.underlying24 Tryz.underlying5 (by kernel_rfl) (kk 24 9 1 (by kernel_rfl) _ (hf3 7 _ rfl))
     have ec:cs'=AcV.cells ⟨z0.toNat,z1,r,z3.toNat,oa,on,oc,ol,z5,z6,ba,bn,bc,bl⟩:=by
       have e:cs'=cs'.drop 0:=rfl
       rw [e,piece cs' 0 1,e0,piece cs' (0+1) 1,e1,piece cs' (0+1+1) 3,e2,piece cs' (0+1+1+3) 1,e3,piece cs' (0+1+1+3+1) 1,e4,piece cs' (0+1+1+3+1+1) 1,e5,piece cs' (0+1+1+3+1+1+1) 1,e6,piece cs' (0+1+1+3+1+1+1+1) 1,e7,List.drop_eq_nil_of_le (by omega)]
       simp [AcV.cells,RcV.cells]
     have hrn:=hr2.1
     have hon:=h4.1
     have hbn:=h7.1
     refine ⟨⟨z0.toNat,z1,r,z3.toNat,oa,on,oc,ol,z5,z6,ba,bn,bc,bl⟩,⟨z0.toNat_lt,⟨m1,m1'⟩,⟨q2,hr2,by dsimp only;omega⟩,z3.toNat_lt,⟨h4,by dsimp only;omega⟩,⟨m5,m5'⟩,⟨m6,m6'⟩,⟨h7,by dsimp only;omega⟩⟩,⟨by dsimp only;omega,by dsimp only;omega,by dsimp only;omega⟩,fun j v hj => ?_⟩
     rw [← ec] at hj
     have hj2:=(List.getElem?_eq_some_iff.1 hj).1
     have:=hcell j (by omega)
     rw [add_add] at this
     rw [this]
     simpa using hj)
   obtain ⟨_,_,hc0⟩:=hp 0 (by omega)
   have h00:=hc0 0 _ rfl
   simp only [Nat.zero_mul,Nat.add_zero] at h00
   rw [show x.add 0=x by simp [Addr.add]] at h00
   obtain ⟨hsp,hlt⟩:=addr_spot h00
   obtain ⟨b,off,spot⟩:=x
   simp at hsp
   subst hsp
   refine ⟨L,⟨hL.symm,by omega,hm,.inr ⟨b,off,rfl,hlt,fun i hi j v hj => ?_⟩⟩,by omega,fun y hy => ?_,fun y hy => ?_⟩
   · obtain ⟨_,_,hc⟩:=hp i hi
     have:=hc j v hj
     rwa [addr_add,← Nat.add_assoc] at this
   · obtain ⟨i,hi,rfl⟩:=List.getElem_of_mem hy
     exact (hp i hi).1
   · obtain ⟨i,hi,rfl⟩:=List.getElem_of_mem hy
     exact (hp i hi).2.1
end
end
end Go.Proofs.YtgbikngicidbkaaGreatDoor
