/- What a play on stores tells the book,and both stores' making and opening,each in one form;conditions: those typed. -/
import Derived.Test.YtgbikngicidbkaaGreatDoorQR20mStPlayTR20nR20oStPlayArgs
import Derived.Test.YtgbikngicidbkaaGreatDoorQGStTwStTRStOpnStGrtStCfgStGrtE
import Derived.Test.YtgbikngicidbkaaGreatDoorQR20iR20jR20kR20l
import Derived.Test.YtgbikngicidbkaaGreatDoorQMChkSameRSameC
import Derived.Test.YtgbikngicidbkaaGreatDoorQKBKIntKBpCKBpL
import Derived.Test.YtgbikngicidbkaaGreatDoorQGStCGStCloStArg2
namespace Go.Proofs.YtgbikngicidbkaaGreatDoor
open Go.RowKit
set_option linter.unusedVariables false
set_option linter.unusedSimpArgs false
set_option maxRecDepth 100000
theorem TwB.hok {w:World} {B g:Nat} {l:List UInt8} (h:TwB w g l) (hB:B≤g) (hm:l.length≤100000000):HOk .byte w B ⟨some ⟨g,0,none⟩,l.length,l.length+1⟩ :=
 ⟨_,.inr ⟨g,rfl,⟨_,h,.inl rfl⟩,Nat.le_succ _,by simp [bcells_length],by dsimp only;unfold maxLen;omega⟩,fun g' e=>by cases e;exact hB⟩
def twHds (gs:List Nat) (L:List (List UInt8)):List Hd:=List.zipWith (fun g (l:List UInt8)=>(⟨some ⟨g,0,none⟩,l.length,l.length+1⟩:Hd)) gs L
theorem twHds_len {gs:List Nat} {L:List (List UInt8)} (h:gs.length=L.length):(twHds gs L).length=L.length:=by simp [twHds,h]
theorem twHds_at {gs:List Nat} {L:List (List UInt8)} (i:Nat) (hi:i<(twHds gs L).length) (h1:i<gs.length) (h2:i<L.length):(twHds gs L)[i]=⟨some ⟨gs[i],0,none⟩,L[i].length,L[i].length+1⟩:=by simp [twHds]
def TwC.hd (y:TwC) (c:CfgD):CfgH:=⟨⟨some ⟨y.r,0,none⟩,c.r.length,c.r.length+1⟩,⟨some ⟨y.g,0,none⟩,c.s.length,c.s.length+1⟩,twHds y.gs c.s,⟨some ⟨y.a,0,none⟩,c.a.length,c.a.length+1⟩,⟨some ⟨y.u,0,none⟩,c.u.length,c.u.length+1⟩⟩
theorem TwCfg.ok {w:World} {B:Nat} {y:TwC} {c:CfgD} (h:TwCfg w B y c) (hs:CfgSm c 1048576) (h1:c.s.length≤1000):CfgOk w B (fun _=>False) (y.hd c):=by
 obtain ⟨m1,m2,m3,m4,m5⟩:=hs
 have hl:(twHds y.gs c.s).length=c.s.length:=twHds_len h.s.len
 have hgl:=h.s.len
 have hau:=h.au
 have hb:∀ i (hi:i<(y.hd c).bs.length),(i<c.s.length∧∃ h1:i<y.gs.length,∃ h2:i<c.s.length,(y.hd c).bs[i]=⟨some ⟨y.gs[i],0,none⟩,c.s[i].length,c.s[i].length+1⟩)∨(i=c.s.length∧(y.hd c).bs[i]=(y.hd c).A)∨(i=c.s.length+1∧(y.hd c).bs[i]=(y.hd c).U):=fun i hi=>by
   have hi2:i<c.s.length+2:=by have:=(y.hd c).bs_len;have e:(y.hd c).S.length=c.s.length:=hl;omega
   have eS:(y.hd c).S.length=c.s.length:=hl
   by_cases h0:i<c.s.length
   · refine .inl ⟨h0,by omega,h0,?_⟩
     obtain ⟨_,e⟩:=(y.hd c).bs_S i (by omega)
     rw [e]
     exact twHds_at i (by omega) (by omega) h0
   · by_cases h2:i=c.s.length
     · obtain ⟨_,e⟩:=(y.hd c).bs_A
       refine .inr (.inl ⟨h2,?_⟩)
       rw [← e];congr 1;omega
     · obtain ⟨_,e⟩:=(y.hd c).bs_U
       refine .inr (.inr ⟨by omega,?_⟩)
       rw [← e];congr 1;omega
 refine ⟨⟨_,.inr ⟨y.r,rfl,⟨_,h.r,.inl rfl⟩,Nat.le_succ _,by simp [TwC.hd,icells_length],by simp only [TwC.hd];unfold maxLen;omega⟩,fun g e=>by cases e;exact h.rB⟩,
   ⟨_,.inr ⟨y.g,rfl,⟨_,h.s.row,.inl rfl⟩,Nat.le_succ _,by simp [TwC.hd,tslices_length _ _ hgl],by simp only [TwC.hd];unfold maxLen;omega⟩,fun g e=>by cases e;exact h.s.le⟩,
   hl.symm,fun i hi => ?_,fun x hx => ?_,⟨by simp only [TwC.hd];omega,fun _ _ h=>h⟩,⟨by simp only [TwC.hd];omega,fun _ _ h=>h⟩,fun i j hi hj hij g e e2 => ?_⟩
 · have hi':i<c.s.length:=by simpa [TwC.hd,hl] using hi
   refine ⟨y.g,rfl,?_⟩
   rw [cell_of_block h.s.row,List.getElem?_toArray,List.getElem?_append_left (by rw [tslices_length _ _ hgl];exact hi'),tslices_get _ _ i (by omega) hi']
   have e:(y.hd c).S[i]=⟨some ⟨y.gs[i]'(by omega),0,none⟩,c.s[i].length,c.s[i].length+1⟩:=twHds_at i (by omega) (by omega) hi'
   rw [e];rfl
 · obtain ⟨i,hi,rfl⟩:=List.getElem_of_mem hx
   rcases hb i hi with ⟨h0,h1,h2,e⟩ | ⟨h0,e⟩ | ⟨h0,e⟩
   · rw [e]
     have hm:=m3 c.s[i] (List.getElem_mem h0)
     exact ⟨(h.s.each i h1 h2).1.hok (h.s.each i h1 h2).2 (by omega),by dsimp only;omega,fun _ _ h=>h⟩
   · rw [e];exact ⟨h.a.hok h.aB (by omega),by simp only [TwC.hd];omega,fun _ _ h=>h⟩
   · rw [e];exact ⟨h.u.hok h.uB (by omega),by simp only [TwC.hd];omega,fun _ _ h=>h⟩
 · rcases hb i hi with ⟨h0,p1,p2,q⟩ | ⟨h0,q⟩ | ⟨h0,q⟩ <;> rcases hb j hj with ⟨k0,r1,r2,s⟩ | ⟨k0,s⟩ | ⟨k0,s⟩ <;> rw [q] at e <;> rw [s] at e2 <;> simp only [TwC.hd] at e e2 <;> cases e
   · simp at e2
     exact h.s.nodup i j p1 r1 hij e2.symm
   · simp at e2
     have:=h.sa i p1;omega
   · simp at e2
     have:=h.sa i p1;omega
   · simp at e2
     have:=h.sa j r1;omega
   · omega
   · (simp at e2) <;> omega
   · simp at e2
     have:=h.sa j r1;omega
   · (simp at e2) <;> omega
   · omega
theorem HOk.lowr {κ:Kd} {w:World} {B B':Nat} {x:Hd} (h:HOk κ w B x) (hb:B'≤B):HOk κ w B' x:=by
 obtain ⟨cur,h1,h2⟩:=h
 exact ⟨cur,h1,fun g e=>Nat.le_trans hb (h2 g e)⟩
theorem HOk.rng {κ:Kd} {w:World} {B:Nat} {x:Hd} (h:HOk κ w B x) {g:Nat} (e:x.a=some ⟨g,0,none⟩):B≤g∧g<w.heap.size:=by
 obtain ⟨C,hc,hb⟩:=h.block e
 exact ⟨hb,lt_of_heap hc⟩
theorem CfgOk.lowr {w:World} {B B':Nat} {P:Nat→Prop} {x:CfgH} (h:CfgOk w B P x) (hb:B'≤B):CfgOk w B' P x :=
 ⟨h.r.lowr hb,h.sl.lowr hb,h.n,h.cells,fun y hy=>⟨(h.b y hy).1.lowr hb,(h.b y hy).2⟩,h.rn,h.sn,h.apart⟩
theorem CfgOk.imp {w:World} {B:Nat} {P Q:Nat→Prop} {x:CfgH} (h:CfgOk w B P x) (hq:∀ k,Q k→P k):CfgOk w B Q x :=
 ⟨h.r,h.sl,h.n,h.cells,fun y hy=>⟨(h.b y hy).1,(h.b y hy).2.1,fun g e hg=>(h.b y hy).2.2 g e (hq g hg)⟩,⟨h.rn.1,fun g e hg=>h.rn.2 g e (hq g hg)⟩,⟨h.sn.1,fun g e hg=>h.sn.2 g e (hq g hg)⟩,h.apart⟩
theorem CfgOk.rng {w:World} {B:Nat} {P:Nat→Prop} {x:CfgH} (h:CfgOk w B P x) {k:Nat} (hk:x.blk k):B≤k∧k<w.heap.size:=by
 rcases hk with e | e | ⟨y,hy,e⟩
 · exact h.r.rng e
 · exact h.sl.rng e
 · exact (h.b y hy).1.rng e
theorem MktOk.lowr {w:World} {B B':Nat} {P:Nat→Prop} {x:MktH} (h:MktOk w B P x) (hb:B'≤B):MktOk w B' P x :=
 ⟨h.l.lowr hb,h.n,h.cells,fun y hy=>⟨(h.b y hy).1.lowr hb,(h.b y hy).2⟩,h.ln,h.apart⟩
theorem MktOk.imp {w:World} {B:Nat} {P Q:Nat→Prop} {x:MktH} (h:MktOk w B P x) (hq:∀ k,Q k→P k):MktOk w B Q x :=
 ⟨h.l,h.n,h.cells,fun y hy=>⟨(h.b y hy).1,(h.b y hy).2.1,fun g e hg=>(h.b y hy).2.2 g e (hq g hg)⟩,⟨h.ln.1,fun g e hg=>h.ln.2 g e (hq g hg)⟩,h.apart⟩
theorem MktOk.rng {w:World} {B:Nat} {P:Nat→Prop} {x:MktH} (h:MktOk w B P x) {k:Nat} (hk:x.blk k):B≤k∧k<w.heap.size:=by
 rcases hk with e | ⟨y,hy,e⟩
 · exact h.l.rng e
 · exact (h.b y hy).1.rng e
def QL (lo rd rl k:Nat):Prop:=k<lo∧¬ (k=rd∨k=rl)
theorem QL.up {lo lo' rd rl k:Nat} (h:QL lo rd rl k) (hl:lo≤lo'):QL lo' rd rl k:=⟨Nat.lt_of_lt_of_le h.1 hl,h.2⟩
def TlC (w:World) (B lo hi:Nat) (y:StA) (c:StC):Prop:=∃ X:CfgH,CfgOk w B (fun k=>k<lo) X∧(X.R.val=.slice y.ra y.rn y.rc∧X.SL.val=.slice y.sa y.sn y.sc∧X.A.val=.slice y.aa y.an y.ac∧X.U.val=.slice y.ua y.un y.uc)∧X.S.length=c.s.length∧∀ k,X.blk k→lo≤k∧k<hi
theorem TlC.of {w:World} {B lo hi:Nat} {y:StA} {c:StC} (h:CfO lo w y c) (hB:B≤lo) (hm:c.may) (hh:w.heap.size≤hi):TlC w B lo hi y c:=by
 obtain ⟨X,h1,h2,h3,h4,h5,h6,h7⟩:=h.ok (P:=fun k=>k<lo) hB (fun k hk=>hk) (by have:=hm.r.2.1;omega) (by have:=hm.s.2;omega) (fun l hl=>by have:=hm.e l hl;omega) (by have:=hm.a;omega) (by have:=hm.u;omega)
 exact ⟨X,h1,⟨h2,h3,h4,h5⟩,h6,fun k hk=>⟨h7 k hk,Nat.lt_of_lt_of_le (h1.rng hk).2 hh⟩⟩
theorem TlC.keep {w w':World} {B lo hi:Nat} {y:StA} {c:StC} (h:TlC w B lo hi y c) (ht:Touch (BkS w B) w w'):TlC w' B lo hi y c:=by
 obtain ⟨X,h1,h2⟩:=h
 exact ⟨X,h1.keep ht,h2⟩
theorem TlC.below {w w':World} {B lo hi:Nat} {y:StA} {c:StC} (h:TlC w B lo hi y c) (hb:Below w.heap.size w w'):TlC w' B lo hi y c:=h.keep (Touch.of_below hb)
def TlI (w:World) (B lo hi:Nat) (a:Option Addr) (n:Nat):Prop:=HOk .int w B ⟨a,n,n⟩∧n≤1000∧∀ g,a=some ⟨g,0,none⟩→lo≤g∧g<hi
theorem TlI.of {w:World} {B lo hi:Nat} {a:Option Addr} {l:List Int} (h:NwI lo w a l) (hB:B≤lo) (hl:l.length≤1000) (hh:w.heap.size≤hi):TlI w B lo hi a l.length :=
 ⟨h.hok hB,hl,fun g e=>⟨((h.hok (Nat.le_refl lo)).rng e).1,Nat.lt_of_lt_of_le ((h.hok (Nat.le_refl lo)).rng e).2 hh⟩⟩
theorem TlI.keep {w w':World} {B lo hi n:Nat} {a:Option Addr} (h:TlI w B lo hi a n) (ht:Touch (BkS w B) w w'):TlI w' B lo hi a n:=⟨h.1.keep ht,h.2⟩
theorem TlI.below {w w':World} {B lo hi n:Nat} {a:Option Addr} (h:TlI w B lo hi a n) (hb:Below w.heap.size w w'):TlI w' B lo hi a n:=h.keep (Touch.of_below hb)
def TlM (w:World) (B lo hi:Nat) (y:MkA) (M:MkC):Prop:=∃ X:MktH,MktOk w B (fun k=>k<lo) X∧(X.R.val=.slice y.ra y.rn y.rc∧X.L.val=.slice y.ba y.bn y.bc∧X.O.val=.slice y.oa y.on y.oc)∧X.S.length=M.b.length∧M.b.length≤8∧∀ k,X.blk k→lo≤k∧k<hi
theorem TlM.of {w:World} {B lo hi:Nat} {y:MkA} {M:MkC} (h:MkO lo w y M) (hB:B≤lo) (h1:M.r.length≤1000) (h2:M.b.length≤8) (h3:∀ l ∈ M.b,l.length≤1000) (h4:M.o.length≤1000) (hh:w.heap.size≤hi):TlM w B lo hi y M:=by
 obtain ⟨X,k1,k2,k3,k4,k5,k6⟩:=h.ok (P:=fun k=>k<lo) hB (fun k hk=>hk) (by omega) (by omega) (fun l hl=>by have:=h3 l hl;omega) (by omega)
 exact ⟨X,k1,⟨k2,k3,k4⟩,k5,h2,fun k hk=>⟨k6 k hk,Nat.lt_of_lt_of_le (k1.rng hk).2 hh⟩⟩
theorem TlM.keep {w w':World} {B lo hi:Nat} {y:MkA} {M:MkC} (h:TlM w B lo hi y M) (ht:Touch (BkS w B) w w'):TlM w' B lo hi y M:=by
 obtain ⟨X,h1,h2⟩:=h
 exact ⟨X,h1.keep ht,h2⟩
theorem TlM.below {w w':World} {B lo hi:Nat} {y:MkA} {M:MkC} (h:TlM w B lo hi y M) (hb:Below w.heap.size w w'):TlM w' B lo hi y M:=h.keep (Touch.of_below hb)
theorem tell_cfg (w:World) (B bk lo hi rd rl n:Nat) (y:StA) (c:StC) (h:BkP w B bk (QL lo rd rl) n) (hT:TlC w B lo hi y c) (hr:rd<lo∧rl<lo) (hl:lo≤hi) (hm:c.s.length≤8) (hn:n≤900000) :
   Calls Tryz.prog 12 #[.pointer (some ⟨bk,0,none⟩),.agg (y.cells c.t).toArray] w fun e w' => e=.returned (.tuple #[])∧Touch (BkS w B) w w'∧BkP w' B bk (QL hi rd rl) (n+12):=by
 obtain ⟨X,h1,⟨e1,e2,e3,e4⟩,h5,h6⟩:=hT
 have hq:=config_q w B bk (QL lo rd rl) n h X (h1.imp (fun k hk=>hk.1)) (.int .u64 (c.t:Int)) rfl (by omega)
 rw [e1,e2,e3,e4] at hq
 refine hq.mono ?_
 rintro e w' ⟨he,ht,hp⟩
 refine ⟨he,ht,hp.mono (fun k hk => ?_) (by omega)⟩
 rcases hk with hk | hk
 · exact hk.up hl
 · obtain ⟨q1,q2⟩:=h6 k hk
   exact ⟨q2,fun e=>by omega⟩
theorem tell_rec (w:World) (B bk lo hi rd rl n:Nat) (a:Option Addr) (m:Nat) (u v:Value) (hu:u.oneCell'=true) (hv:v.oneCell'=true) (h:BkP w B bk (QL lo rd rl) n) (hT:TlI w B lo hi a m) (hr:rd<lo∧rl<lo) (hl:lo≤hi) (hn:n≤900000) :
   Calls Tryz.prog 43 #[.pointer (some ⟨bk,0,none⟩),.agg #[u,v,.slice a m m]] w fun e w' => e=.returned (.tuple #[])∧Touch (BkS w B) w w'∧BkP w' B bk (QL hi rd rl) (n+1):=by
 obtain ⟨h1,h2,h3⟩:=hT
 refine (record_p w B bk (QL lo rd rl) n h ⟨a,m,m⟩ u v hu hv h1 (by dsimp only;omega) (fun g e hq=>by have:=h3 g e;have:=hq.1;omega) (by omega)).mono ?_
 rintro e w' ⟨he,ht,hp⟩
 refine ⟨he,ht,hp.mono (fun k hk => ?_) (Nat.le_refl _)⟩
 rcases hk with hk | hk
 · exact hk.up hl
 · obtain ⟨q1,q2⟩:=h3 k hk
   exact ⟨q2,fun e=>by omega⟩
theorem tell_ints (w:World) (B bk lo hi rd rl n:Nat) (a:Option Addr) (m:Nat) (h:BkP w B bk (QL lo rd rl) n) (hT:TlI w B lo hi a m) (hr:rd<lo∧rl<lo) (hl:lo≤hi) (hn:n≤900000) :
   Calls Tryz.prog 44 #[.pointer (some ⟨bk,0,none⟩),.slice a m m] w fun e w' => e=.returned (.tuple #[])∧Touch (BkS w B) w w'∧BkP w' B bk (QL hi rd rl) (n+1):=by
 obtain ⟨h1,h2,h3⟩:=hT
 refine (ints_p w B bk (QL lo rd rl) n h ⟨a,m,m⟩ h1 (by dsimp only;omega) (fun g e hq=>by have:=h3 g e;have:=hq.1;omega) (by omega)).mono ?_
 rintro e w' ⟨he,ht,hp⟩
 refine ⟨he,ht,hp.mono (fun k hk => ?_) (Nat.le_refl _)⟩
 rcases hk with hk | hk
 · exact hk.up hl
 · obtain ⟨q1,q2⟩:=h3 k hk
   exact ⟨q2,fun e=>by omega⟩
theorem tell_mkt (w:World) (B bk lo hi rd rl n:Nat) (y:MkA) (M:MkC) (h:BkP w B bk (QL lo rd rl) n) (hT:TlM w B lo hi y M) (hr:rd<lo∧rl<lo) (hl:lo≤hi) (hn:n≤900000) :
   Calls Tryz.prog 45 #[.pointer (some ⟨bk,0,none⟩),.agg y.cells.toArray] w fun e w' => e=.returned (.tuple #[])∧Touch (BkS w B) w w'∧BkP w' B bk (QL hi rd rl) (n+11):=by
 obtain ⟨X,h1,⟨e1,e2,e3⟩,h5,h5',h6⟩:=hT
 have hq:=market_p w B bk (QL lo rd rl) n h X (h1.imp (fun k hk=>hk.1)) (by omega)
 rw [e1,e2,e3] at hq
 refine hq.mono ?_
 rintro e w' ⟨he,ht,hp⟩
 refine ⟨he,ht,hp.mono (fun k hk => ?_) (by omega)⟩
 rcases hk with hk | hk
 · exact hk.up hl
 · obtain ⟨q1,q2⟩:=h6 k hk
   exact ⟨q2,fun e=>by omega⟩
def makeD (c:StC) (D:Dsk):Int × Dsk:=if mayB c=false then (1,D) else if roomC D c.s.length=false then (3,D) else if 0<(D.get ((0:Nat):Int)).1 then (11,D) else D.put ((0:Nat):Int) 1 c.enc
theorem makeD_fine {c:StC} {D:Dsk} {k:Int} (h:D.fine k):(makeD c D).2.fine (k+7):=by
 unfold makeD
 split
 · exact h.mono (by omega)
 · split
   · exact h.mono (by omega)
   · split
     · exact h.mono (by omega)
     · exact h.put _ _ _
theorem Same.make {D R:Dsk} (h:Same D R) (c:StC):(makeD c R).1=(makeD c D).1∧Same (makeD c D).2 (makeD c R).2:=by
 have e1:roomC R c.s.length=roomC D c.s.length:=by unfold roomC;rw [h.1]
 unfold makeD
 rw [e1,h.get]
 split
 · exact ⟨rfl,h⟩
 · split
   · exact ⟨rfl,h⟩
   · split
     · exact ⟨rfl,h⟩
     · exact h.put _ _ _
theorem make_all (P:Nat→Prop) (bd bl:Nat) (D:Dsk) (x:StA) (c:StC) (k:Int) (w:World) (h:IsDisk w bd bl D) (hc:IsCf w P x c) (hP:∀ k,P k→¬ (k=bd∨k=bl)) (hk:D.fine k) (hk2:k≤1000000000000000) :
   Calls Tryz.prog 9 #[.pointer (some ⟨bd,0,none⟩),.agg (x.cells c.t).toArray] w fun e w' => ∃ s:Value,e=.returned (.tuple #[s,.int .i64 (makeD c D).1])∧Touch (fun k=>k=bd∨k=bl) w w'∧IsDisk w' bd bl (makeD c D).2 ∧
     (((makeD c D).1≠0∧s=.pointer none)∨((makeD c D).1=0∧mayB c=true∧∃ (bs:Nat) (y:StA),s=.pointer (some ⟨bs,0,none⟩)∧IsStore w' bs bd bl y c (makeD c D).2∧CfT w.heap.size w' y c)):=by
 cases hm:mayB c with
 | false =>
   have e:makeD c D=(1,D):=if_pos hm
   rw [e]
   refine (make_arg P bd bl D x c w h hc hm).mono ?_
   rintro e w' ⟨rfl,hb⟩
   exact ⟨_,rfl,Touch.of_below hb,h.touch (Touch.of_below (S:=fun _=>False) hb) id id,.inl ⟨(show (1:Int)≠0 by decide),rfl⟩⟩
 | true =>
   refine (make_may P bd bl D x c k w h hc hP hm hk hk2).mono ?_
   rintro e w' (⟨h1,rfl,hb⟩ | ⟨h1,h2,rfl,hb⟩ | ⟨h1,h2,h3,rfl,ht,hd⟩ | ⟨h1,h2,h3,bs,y,rfl,ht,hs,_,hcf,hco⟩)
   · have e:makeD c D=(3,D):=by unfold makeD;rw [if_neg (by rw [hm];decide),if_pos h1]
     rw [e]
     exact ⟨_,rfl,Touch.of_below hb,h.touch (Touch.of_below (S:=fun _=>False) hb) id id,.inl ⟨(show (3:Int)≠0 by decide),rfl⟩⟩
   · have e:makeD c D=(11,D):=by unfold makeD;rw [if_neg (by rw [hm];decide),if_neg (by rw [h1];decide),if_pos h2]
     rw [e]
     exact ⟨_,rfl,Touch.of_below hb,h.touch (Touch.of_below (S:=fun _=>False) hb) id id,.inl ⟨(show (11:Int)≠0 by decide),rfl⟩⟩
   · have e:makeD c D=D.put ((0:Nat):Int) 1 c.enc:=by unfold makeD;rw [if_neg (by rw [hm];decide),if_neg (by rw [h1];decide),if_neg (by omega)]
     rw [e]
     exact ⟨_,rfl,ht,hd,.inl ⟨h3,rfl⟩⟩
   · have e:makeD c D=D.put ((0:Nat):Int) 1 c.enc:=by unfold makeD;rw [if_neg (by rw [hm];decide),if_neg (by rw [h1];decide),if_neg (by omega)]
     rw [e]
     exact ⟨_,by rw [h3],ht,hs.disk,.inr ⟨h3,rfl,bs,y,rfl,hs,hco.ty hcf⟩⟩
theorem rmake_all (P:Nat→Prop) (B rd rl rc:Nat) (R:Dsk) (x:StA) (c:StC) (k:Int) (w:World) (h:IsRef w B rd rl rc R) (hc:IsCf w P x c) (hP:∀ k,P k→¬ (k=rd∨k=rl)) (hk:R.fine k) (hk2:k≤1000000000000000) :
   Calls Tryz.prog 10 #[.pointer (some ⟨rd,0,none⟩),.agg (x.cells c.t).toArray] w fun e w' => ∃ s:Value,e=.returned (.tuple #[s,.int .i64 (makeD c R).1])∧Touch (fun k=>k=rd∨k=rl) w w'∧IsRef w' B rd rl rc (makeD c R).2 ∧
     (((makeD c R).1≠0∧s=.pointer none)∨((makeD c R).1=0∧mayB c=true∧∃ (ts:Nat) (y:StA),s=.pointer (some ⟨ts,0,none⟩)∧IsRS w' ts B rd rl rc y c (makeD c R).2∧CfT w.heap.size w' y c)):=by
 cases hm:mayB c with
 | false =>
   have e:makeD c R=(1,R):=if_pos hm
   rw [e]
   refine (rmake_arg P _ x c w hc hm).mono ?_
   rintro e w' ⟨rfl,hb⟩
   exact ⟨_,rfl,Touch.of_below hb,h.below hb,.inl ⟨(show (1:Int)≠0 by decide),rfl⟩⟩
 | true =>
   refine (rmake_may P B rd rl rc R x c k w h hc hP hm hk hk2).mono ?_
   rintro e w' (⟨h1,rfl,hb⟩ | ⟨h1,h2,rfl,hb⟩ | ⟨h1,h2,h3,rfl,ht,hd⟩ | ⟨h1,h2,h3,ts,y,rfl,ht,hs,_,hcf⟩)
   · have e:makeD c R=(3,R):=by unfold makeD;rw [if_neg (by rw [hm];decide),if_pos h1]
     rw [e]
     exact ⟨_,rfl,Touch.of_below hb,h.below hb,.inl ⟨(show (3:Int)≠0 by decide),rfl⟩⟩
   · have e:makeD c R=(11,R):=by unfold makeD;rw [if_neg (by rw [hm];decide),if_neg (by rw [h1];decide),if_pos h2]
     rw [e]
     exact ⟨_,rfl,Touch.of_below hb,h.below hb,.inl ⟨(show (11:Int)≠0 by decide),rfl⟩⟩
   · have e:makeD c R=R.put ((0:Nat):Int) 1 c.enc:=by unfold makeD;rw [if_neg (by rw [hm];decide),if_neg (by rw [h1];decide),if_neg (by omega)]
     rw [e]
     exact ⟨_,rfl,ht,hd,.inl ⟨h3,rfl⟩⟩
   · have e:makeD c R=R.put ((0:Nat):Int) 1 c.enc:=by unfold makeD;rw [if_neg (by rw [hm];decide),if_neg (by rw [h1];decide),if_neg (by omega)]
     rw [e]
     exact ⟨_,by rw [h3],ht,hs.disk,.inr ⟨h3,rfl,ts,y,rfl,hs,hcf⟩⟩
def opE (D:Dsk):Int:=match openC D with | .error k=>k | .ok _=>0
theorem Same.opn {D R:Dsk} (h:Same D R):openC R=openC D:=by
 have e1:∀ n,roomC R n=roomC D n:=fun n=>by unfold roomC;rw [h.1]
 have e2:∀ n,phD n R=phD n D:=fun n=>by unfold phD;rw [h.get]
 have e3:∀ it i,rcD it R i=rcD it D i:=fun it i=>by unfold rcD;rw [h.get]
 have e4:∀ it n,allR it R n=allR it D n:=fun it n=>by unfold allR;simp only [e3]
 unfold openC
 simp only [h.get,e1,e2,e4]
theorem open_may {D:Dsk} {c:StC} (h:openC D=.ok c):mayB c=true:=by
 unfold openC at h
 split at h
 · cases h
 · split at h
   · cases h
   · rename_i c' _
     split at h
     · cases h
     · rename_i hm
       split at h
       · cases h
       · split at h
         · cases h;simpa using hm
         · cases h
theorem open_all (bd bl:Nat) (D:Dsk) (w:World) (h:IsDisk w bd bl D) :
   Calls Tryz.prog 21 #[.pointer (some ⟨bd,0,none⟩)] w fun e w' => ∃ s:Value,e=.returned (.tuple #[s,.int .i64 (opE D)])∧Below w.heap.size w w' ∧
     (((∃ k,openC D=.error k)∧s=.pointer none)∨(∃ c,openC D=.ok c∧∃ (bs:Nat) (y:StA),s=.pointer (some ⟨bs,0,none⟩)∧IsStore w' bs bd bl y c D∧CfT w.heap.size w' y c)):=by
 refine (open_any bd bl D w h).mono ?_
 rintro e w' ⟨⟨k,h1,rfl⟩ | ⟨c,h1,bs,y,rfl,h2,_,h3,h4⟩,hb⟩
 · exact ⟨_,by unfold opE;rw [h1],hb,.inl ⟨⟨k,h1⟩,rfl⟩⟩
 · exact ⟨_,by unfold opE;rw [h1],hb,.inr ⟨c,h1,bs,y,rfl,h2,h4.ty h3⟩⟩
theorem ropen_all (B rd rl rc:Nat) (R:Dsk) (w:World) (h:IsRef w B rd rl rc R) :
   Calls Tryz.prog 22 #[.pointer (some ⟨rd,0,none⟩)] w fun e w' => ∃ s:Value,e=.returned (.tuple #[s,.int .i64 (opE R)])∧Below w.heap.size w w' ∧
     (((∃ k,openC R=.error k)∧s=.pointer none)∨(∃ c,openC R=.ok c∧∃ (ts:Nat) (y:StA),s=.pointer (some ⟨ts,0,none⟩)∧IsRS w' ts B rd rl rc y c R∧CfT w.heap.size w' y c)):=by
 refine (ropen_any B rd rl rc R w h).mono ?_
 rintro e w' ⟨⟨k,h1,rfl⟩ | ⟨c,h1,ts,y,rfl,h2,_,h3⟩,hb⟩
 · exact ⟨_,by unfold opE;rw [h1],hb,.inl ⟨⟨k,h1⟩,rfl⟩⟩
 · exact ⟨_,by unfold opE;rw [h1],hb,.inr ⟨c,h1,ts,y,rfl,h2,h3⟩⟩
theorem TwL.touchB {S:Nat→Prop} {w w':World} {B g gz:Nat} {gs:List Nat} {L:List (List UInt8)} (h:TwL w B g gs gz L) (ht:Touch S w w') (hs:∀ k,B≤k→¬ S k) (hz:∀ k,S k→∀ cur t fz,w.heap[k]?=some (.cells cur t fz)→t≠5):TwL w' B g gs gz L :=
 ⟨ht.heap h.row (hs g h.le),h.len,fun i h1 h2=>⟨ht.heap (h.each i h1 h2).1 (hs _ (h.each i h1 h2).2),(h.each i h1 h2).2⟩,h.nodup,ht.heap h.z (fun e=>hz gz e _ _ _ h.z rfl),h.le⟩
theorem TwCfg.touchB {S:Nat→Prop} {w w':World} {B:Nat} {x:TwC} {c:CfgD} (h:TwCfg w B x c) (ht:Touch S w w') (hs:∀ k,B≤k→¬ S k) (hz:∀ k,S k→∀ cur t fz,w.heap[k]?=some (.cells cur t fz)→t≠5):TwCfg w' B x c :=
 ⟨ht.heap h.r (hs _ h.rB),h.s.touchB ht hs hz,ht.heap h.a (hs _ h.aB),ht.heap h.u (hs _ h.uB),h.rB,h.aB,h.uB,h.sa,h.au⟩
def TwC.stA (x:TwC) (c:StC):StA:=⟨some ⟨x.r,0,none⟩,c.r.length,c.r.length+1,some ⟨x.g,0,none⟩,c.s.length,c.s.length+1,tslices x.gs c.s,some ⟨x.a,0,none⟩,c.a.length,c.a.length+1,some ⟨x.u,0,none⟩,c.u.length,c.u.length+1⟩
theorem TwC.stA_cells (x:TwC) {c:StC} (h:c.t<18446744073709551616):(x.adr c.d).cells c.d.t=(x.stA c).cells c.t:=by
 unfold CfgA.cells StA.cells TwC.adr TwC.stA
 rw [StC.d_t h];rfl
theorem TwCfg.isCf {w:World} {B:Nat} {x:TwC} {c:StC} (h:TwCfg w B x c.d) (hs:CfSm c) (ht:c.t<18446744073709551616):IsCf w (fun k=>B≤k) (x.stA c) c:=by
 obtain ⟨m1,m2,m4,m5,m3⟩:=hs
 have hm:∀ n:Nat,n≤1048576→n+1≤maxLen:=fun n h=>by unfold maxLen;omega
 have hgl:=h.s.len
 have hcl:c.d.s=c.s:=rfl
 have hr:IsI w (some ⟨x.r,0,none⟩) c.r.length (c.r.length+1) c.r:=⟨rfl,Nat.le_succ _,hm _ m1,.inr ⟨x.r,0,rfl,lt_of_heap h.r,fun i hi=>by
   rw [Nat.zero_add];exact h.r.twin.2.1 i hi⟩⟩
 have hb:∀ (l:List UInt8) (g:Nat),l.length≤1048576→TwB w g l→IsB w (some ⟨g,0,none⟩) l.length (l.length+1) l:=fun l g hl h=>h.twin.isB (hm _ hl)
 refine ⟨⟨hr,fun b off e _=>by cases e;exact h.rB⟩,⟨rfl,Nat.le_succ _,hm _ m2,⟨tslices_length _ _ hgl,fun i hi => ?_⟩,.inr ⟨x.g,0,rfl,h.s.le,lt_of_heap h.s.row,fun i hi => ?_⟩⟩,⟨hb _ _ m4 h.a,fun b off e _=>by cases e;exact h.aB⟩,⟨hb _ _ m5 h.u,fun b off e _=>by cases e;exact h.uB⟩,ht⟩
 · have h1:i<x.gs.length:=by rw [hgl];exact hi
   exact ⟨_,_,_,tslices_get _ _ i h1 hi,hb _ _ (m3 _ (List.getElem_mem hi)) (h.s.each i h1 hi).1,fun b off e _=>by cases e;exact (h.s.each i h1 hi).2⟩
 · rw [Nat.zero_add,cell_of_block h.s.row,List.getElem?_toArray]
   have hi':i<(tslices x.gs c.d.s).length:=hi
   rw [List.getElem?_append_left hi',List.getElem?_eq_getElem hi']
   rfl
theorem tell_twin (w:World) (B bk lo hi rd rl n:Nat) (x:TwC) (c:StC) (h:BkP w B bk (QL lo rd rl) n) (hT:TwCfg w lo x c.d) (hB:B≤lo) (hr:rd<lo∧rl<lo) (hl:lo≤hi) (hh:w.heap.size≤hi) (hs:CfgSm c.d 1048576) (hm:c.s.length≤1000) (ht:c.t<18446744073709551616) (hn:n≤900000) :
   Calls Tryz.prog 12 #[.pointer (some ⟨bk,0,none⟩),.agg ((x.stA c).cells c.t).toArray] w fun e w' => e=.returned (.tuple #[])∧Touch (BkS w B) w w'∧BkP w' B bk (QL hi rd rl) (n+1004):=by
 have h1:CfgOk w lo (fun k=>k<lo) (x.hd c.d):=by
   have h0:=hT.ok hs hm
   exact ⟨h0.r,h0.sl,h0.n,h0.cells,fun y hy=>⟨(h0.b y hy).1,(h0.b y hy).2.1,fun g e hg=>by have:=((h0.b y hy).1.rng e).1;omega⟩,⟨h0.rn.1,fun g e hg=>by have:=(h0.r.rng e).1;omega⟩,⟨h0.sn.1,fun g e hg=>by have:=(h0.sl.rng e).1;omega⟩,h0.apart⟩
 have hq:=config_q w B bk (QL lo rd rl) n h (x.hd c.d) ((h1.lowr hB).imp (fun k hk=>hk.1)) (.int .u64 (c.t:Int)) rfl (by omega)
 refine hq.mono ?_
 rintro e w' ⟨he,ht,hp⟩
 have hlen:(x.hd c.d).S.length=c.s.length:=twHds_len hT.s.len
 refine ⟨he,ht,hp.mono (fun k hk => ?_) (by omega)⟩
 rcases hk with hk | hk
 · exact hk.up hl
 · obtain ⟨q1,q2⟩:=h1.rng hk
   exact ⟨by omega,fun e=>by omega⟩
theorem Same.ph {D R:Dsk} (h:Same D R) (n:Nat):phD n R=phD n D:=by unfold phD;rw [h.get]
theorem Same.rcs {D R:Dsk} (h:Same D R) (it i:Nat):rcD it R i=rcD it D i:=by unfold rcD;rw [h.get]
theorem Same.oE {D R:Dsk} (h:Same D R) (n:Nat):ordE n R=ordE n D:=by unfold ordE;rw [h.ph]
theorem Same.oL {D R:Dsk} (h:Same D R) (n:Nat):ordL n R=ordL n D:=by unfold ordL;rw [h.ph]
theorem Same.rec {D R:Dsk} (h:Same D R) (c:StC) (who:Int):recK c R who=recK c D who:=by unfold recK;rw [h.rcs]
theorem Same.mkt {D R:Dsk} (h:Same D R) (c:StC):mktC c R=mktC c D:=by
 unfold mktC bidsK
 rw [h.oL]
 simp only [h.rcs]
theorem Same.turn {D R:Dsk} (h:Same D R) (n p:Nat) (l:List Int):(turnD n R p l).1=(turnD n D p l).1∧Same (turnD n D p l).2 (turnD n R p l).2:=by
 unfold turnD
 rw [h.ph,h.get]
 split
 · exact ⟨rfl,h⟩
 · split
   · exact ⟨rfl,h⟩
   · exact h.put _ _ _
theorem Same.set {D R:Dsk} (h:Same D R) (n it:Nat) (who:Int) (x:StR):(setD n it R who x).1=(setD n it D who x).1∧Same (setD n it D who x).2 (setD n it R who x).2:=by
 unfold setD
 rw [h.rcs,h.get]
 split
 · exact ⟨rfl,h⟩
 · split
   · exact ⟨rfl,h⟩
   · split
     · exact ⟨rfl,h⟩
     · exact h.put _ _ _
theorem turnD_fine {D:Dsk} {k:Int} (h:D.fine k) (n p:Nat) (l:List Int):(turnD n D p l).2.fine (k+7):=by
 unfold turnD
 split
 · exact h.mono (by omega)
 · split
   · exact h.mono (by omega)
   · exact h.put _ _ _
theorem setD_fine {D:Dsk} {k:Int} (h:D.fine k) (n it:Nat) (who:Int) (x:StR):(setD n it D who x).2.fine (k+7):=by
 unfold setD
 split
 · exact h.mono (by omega)
 · split
   · exact h.mono (by omega)
   · split
     · exact h.mono (by omega)
     · exact h.put _ _ _
def mkN (c:StC) (D:Dsk):MkC:=if ordE c.s.length D=0 then mktC c D else ⟨[],[],[]⟩
theorem mktR_may {c:StC} {D:Dsk} (hm:c.may):mktR c D=(mkN c D,ordE c.s.length D):=by
 unfold mktR mkN
 by_cases h:ordE c.s.length D=0
 · rw [if_neg (by rw [h];decide),if_pos h,if_pos (mkt_may hm h),h]
 · rw [if_pos h,if_neg h]
theorem ordC_ln {n:Nat} {l:List Int} (h:ordC n l=true):l.length=n:=by
 unfold ordC at h
 simp at h
 exact h.1
theorem ordL_len (n:Nat) (D:Dsk) (hn:n≤8):(ordL n D).length≤1000:=by
 by_cases h:ordE n D=0
 · have:=ordC_ln (ph_ord h);omega
 · have e:ordL n D=[]:=by
     unfold ordE at h
     unfold ordL
     split at h
     · exact absurd rfl h
     · rename_i h2;rw [if_neg h2]
   rw [e];decide
theorem mkN_len {c:StC} (hm:c.may) (D:Dsk):(mkN c D).r.length≤1000∧(mkN c D).b.length≤8∧(∀ l ∈ (mkN c D).b,l.length≤1000)∧(mkN c D).o.length≤1000:=by
 unfold mkN
 split
 · refine ⟨by have:=hm.r.2.1;show c.r.length≤1000;omega,by show (bidsK c.r.length D c.s.length).length≤8;rw [bidsK_length];exact hm.s.2,fun l hl => ?_,ordL_len _ _ hm.s.2⟩
   have hl:l ∈ bidsK c.r.length D c.s.length:=hl
   unfold bidsK at hl
   obtain ⟨i,hi,rfl⟩:=List.mem_map.1 hl
   have:=recK_len hm D (i:Int)
   unfold recK at this
   rw [if_neg (by have:=List.mem_range.1 hi;omega)] at this
   exact this
 · exact ⟨by decide,by decide,(fun l hl=>by cases hl),by decide⟩
theorem infoCfg5:(Tryz.prog.info? 27).map (·.size)=some 5:=by kernel_rfl
theorem zeroCfg5:(Tryz.prog.info? 27).map (·.zero)=some (some (.agg #[.slice none 0 0,.slice none 0 0,.slice none 0 0,.slice none 0 0,.int .u64 0])):=by kernel_rfl
theorem infoRec3:(Tryz.prog.info? 60).map (·.size)=some 3:=by kernel_rfl
theorem zeroRec3:(Tryz.prog.info? 60).map (·.zero)=some (some (.agg #[.int .u32 0,.bool false,.slice none 0 0])):=by kernel_rfl
theorem infoMkt3:(Tryz.prog.info? 84).map (·.size)=some 3:=by kernel_rfl
theorem zeroMkt3:(Tryz.prog.info? 84).map (·.zero)=some (some (.agg #[.slice none 0 0,.slice none 0 0,.slice none 0 0])):=by kernel_rfl
theorem infoAct10:(Tryz.prog.info? 63).map (·.size)=some 10:=by kernel_rfl
theorem zeroAct10:(Tryz.prog.info? 63).map (·.zero)=some (some (.agg #[.int .u8 0,.int .i64 0,.int .u32 0,.bool false,.slice none 0 0,.int .u8 0,.slice none 0 0,.int .i64 0,.int .i64 0,.slice none 0 0])):=by kernel_rfl
theorem zeroBook4:(Tryz.prog.info? 56).map (·.zero)=some (some (.agg (bookC 0 (fun _=>.slice none 0 0)))):=by kernel_rfl
theorem wpList_load_wanted {P:Program} {ops:Array Oper} {rest:List Oper} {op:Oper} {a:Act} {w:World} {Q:Exit→Act→World→Prop} (hw:Region.wanted op (yielded ops a.tmps)=true) (ty:TypeId) (x:Operand) (ho:op.op=.load ty x)
   (b o:Nat) (hx:a.eval x=.pointer (some ⟨b,o,none⟩)) (cs:List Value) (d:TypeDesc) (hc:w.rangeAt b o cs)
   (hu:P.underlying ty=some d) (hd:d.isRow=true) (hi:(P.info? ty).map (·.size)=some cs.length)
   (h:wpList P ops Q rest (a.put op.dst (.agg cs.toArray)) w):wpList P ops Q (op :: rest) a w :=
 wpList_step fun K hK=>by
   simp only [hw,if_true]
   exact wp_load_mid ty x ho b o hx cs d hc hu hd hi (hK _ _ h)
theorem range_low {w w':World} {b o:Nat} {cs:List Value} (h:w.rangeAt b o cs) (hb:Below w.heap.size w w') (hlt:b<w.heap.size):w'.rangeAt b o cs:=fun j v hj=>(hb.cell (p:=⟨b,_,none⟩) hlt).trans (h j v hj)
theorem twin_st (x:StA) (c:StC) (P:Nat→Prop) (w:World) (h:IsCf w P x c) (hs:CfgSm c.d 1048576) :
   Calls Tryz.prog 8 #[.agg (x.cells c.t).toArray] w fun e w' => ∃ y:TwC,e=.returned (.agg ((y.stA c).cells c.t).toArray)∧Below w.heap.size w w'∧TwCfg w' w.heap.size y c.d:=by
 have h1:=twinCfg_any x.g c.d 0 w h.isCfg hs
 rw [StA.g_cells h.t] at h1
 refine h1.mono ?_
 rintro e w' ⟨y,rfl,hb,ht⟩
 exact ⟨y,by rw [TwC.stA_cells y h.t],hb,ht⟩
theorem left_st (x:StA) (y:TwC) (c:StC) (P:Nat→Prop) (B:Nat) (w:World) (h:IsCf w P x c) (ht:TwCfg w B y c.d) (hs:CfgSm c.d 1048576) :
   Calls Tryz.prog 11 #[.agg ((y.stA c).cells c.t).toArray,.agg (x.cells c.t).toArray] w fun e w' => e=.returned (.bool true)∧Below w.heap.size w w':=by
 have h1:=leftCfg_any x.g y c.d B 0 w h.isCfg ht hs
 rw [StA.g_cells h.t,TwC.stA_cells y h.t] at h1
 exact h1
def fcode (b:Bool):Int:=if b then 8 else 0
theorem dfuse_any (bd bl:Nat) (D:Dsk) (n:Int) (w:World) (h:IsDisk w bd bl D) :
   Calls Tryz.prog 17 #[.pointer (some ⟨bd,0,none⟩),.int .i64 n] w fun e w' => e=.returned (.int .i64 (fcode D.blown))∧Touch (fun k=>k=bd∨k=bl) w w'∧IsDisk w' bd bl (if D.blown then D else { D with left:=n }):=by
 cases hB:D.blown
 · exact (fuse_ok bd bl D n w h hB).mono fun e w' h=>⟨h.1,h.2.1.weaken (fun k _ hk=>.inl hk),by rw [hB] at h;exact h.2.2⟩
 · exact (fuse_blown bd bl D n w h hB).mono fun e w' h' => by
     obtain ⟨h1,rfl⟩:=h'
     exact ⟨h1,Touch.refl _ _,h⟩
theorem rfuse_c (B rd rl rc:Nat) (R:Dsk) (n:Int) (w:World) (h:IsRef w B rd rl rc R) :
   Calls Tryz.prog 18 #[.pointer (some ⟨rd,0,none⟩),.int .i64 n] w fun e w' => e=.returned (.int .i64 (fcode R.blown))∧Touch (fun k=>k=rd) w w'∧IsRef w' B rd rl rc (if R.blown then R else { R with left:=max (-1) n }):=rfuse_any B rd rl rc R n w h
theorem Same.fuses {D R:Dsk} (h:Same D R) (n:Int):Same (if D.blown then D else { D with left:=n }) (if R.blown then R else { R with left:=max (-1) n }):=by
 have e:R.blown=D.blown:=h.2.1
 by_cases hb:D.blown=true
 · rw [if_pos hb,if_pos (e.trans hb)];exact h
 · rw [if_neg hb,if_neg (fun h=>hb (e.symm.trans h))];exact h.fuse n
theorem tk {P:Program} {ops:Array Oper} {Q:Exit→Act→World→Prop} {md:Region.Mode} {S:World→Prop} (i:Nat) (v:Value) {oi:Oper} {fuel:Nat} {listed:Array Bool} {a:Act} {w:World} (hi:ops[i]?=some oi) (hy:∀ w,S w→(execOp a.eval oi).run P w=.ok (.value v) w) (hS:S w)
   (h:wpAnyH P md ops Q S fuel (listed.setIfInBounds i true) (a.put oi.dst v) w) (hs:Region.noSelect ops=true:=by kernel_rfl) (hf:Region.free md ops listed i=true:=by kernel_rfl) (hr:(Region.ready md ops listed).contains i=true:=by kernel_rfl)
   (hQ:∀ c a w,Q (.panic c) (a.put oi.dst v) w→Q (.panic c) a w:=by exact fun _ _ _ h=>h) (hw:Region.wanted oi (yielded ops a.tmps)=true:=by kernel_rfl):wpAnyH P md ops Q S (fuel+1) listed a w :=
 wpAnyH_take hi hs hf hr hQ (.inl ⟨hw,hy⟩) hS h
theorem tn {P:Program} {ops:Array Oper} {Q:Exit→Act→World→Prop} {md:Region.Mode} {S:World→Prop} (i:Nat) {oi:Oper} {fuel:Nat} {listed:Array Bool} {a:Act} {w:World} (hi:ops[i]?=some oi) (hS:S w)
   (h:wpAnyH P md ops Q S fuel (listed.setIfInBounds i true) (a.put oi.dst undef) w) (hs:Region.noSelect ops=true:=by kernel_rfl) (hf:Region.free md ops listed i=true:=by kernel_rfl) (hr:(Region.ready md ops listed).contains i=true:=by kernel_rfl)
   (hQ:∀ c a w,Q (.panic c) (a.put oi.dst undef) w→Q (.panic c) a w:=by exact fun _ _ _ h=>h) (hw:Region.wanted oi (yielded ops a.tmps)=false:=by kernel_rfl):wpAnyH P md ops Q S (fuel+1) listed a w :=
 wpAnyH_take hi hs hf hr hQ (.inr ⟨hw,rfl⟩) hS h
def BxCf (w:World) (b:Nat) (x:StA) (c:StC):Prop:=w.heap[b]?=some (.cells (x.cells c.t).toArray 27 (0,0))
theorem BxCf.row {w:World} {b:Nat} {x:StA} {c:StC} (h:BxCf w b x c):w.rangeAt b 0 (x.cells c.t):=rangeAt_row h
theorem BxCf.touch {S:Nat→Prop} {w w':World} {b:Nat} {x:StA} {c:StC} (h:BxCf w b x c) (ht:Touch S w w') (hs:¬ S b):BxCf w' b x c:=ht.heap h hs
theorem BxCf.below {w w':World} {b:Nat} {x:StA} {c:StC} (h:BxCf w b x c) (hb:Below w.heap.size w w'):BxCf w' b x c:=below_heap hb h (lt_of_heap h)
theorem BxCf.cells {w:World} {b:Nat} {x:StA} {c:StC} (h:BxCf w b x c):w.cell? ⟨b,0,none⟩=some (.slice x.ra x.rn x.rc)∧w.cell? ⟨b,1,none⟩=some (.slice x.sa x.sn x.sc)∧w.cell? ⟨b,2,none⟩=some (.slice x.aa x.an x.ac)∧w.cell? ⟨b,3,none⟩=some (.slice x.ua x.un x.uc)∧w.cell? ⟨b,4,none⟩=some (.int .u64 (c.t:Int)):=by
 refine ⟨?_,?_,?_,?_,?_⟩ <;> (rw [cell_of_block h];rfl)
def BxRc (w:World) (b sq:Nat) (st:Bool) (a:Option Addr) (n k:Nat):Prop:=w.heap[b]?=some (.cells #[.int .u32 sq,.bool st,.slice a n k] 60 (0,0))
theorem BxRc.touch {S:Nat→Prop} {w w':World} {b sq:Nat} {st:Bool} {a:Option Addr} {n k:Nat} (h:BxRc w b sq st a n k) (ht:Touch S w w') (hs:¬ S b):BxRc w' b sq st a n k:=ht.heap h hs
theorem BxRc.below {w w':World} {b sq:Nat} {st:Bool} {a:Option Addr} {n k:Nat} (h:BxRc w b sq st a n k) (hb:Below w.heap.size w w'):BxRc w' b sq st a n k:=below_heap hb h (lt_of_heap h)
theorem BxRc.row {w:World} {b sq:Nat} {st:Bool} {a:Option Addr} {n k:Nat} (h:BxRc w b sq st a n k):w.rangeAt b 0 [.int .u32 sq,.bool st,.slice a n k]:=rangeAt_row h
theorem BxRc.cells {w:World} {b sq:Nat} {st:Bool} {a:Option Addr} {n k:Nat} (h:BxRc w b sq st a n k):w.cell? ⟨b,0,none⟩=some (.int .u32 sq)∧w.cell? ⟨b,1,none⟩=some (.bool st)∧w.cell? ⟨b,2,none⟩=some (.slice a n k):=by
 refine ⟨?_,?_,?_⟩ <;> (rw [cell_of_block h];rfl)
def BxMk (w:World) (b:Nat) (x:MkA):Prop:=w.heap[b]?=some (.cells x.cells.toArray 84 (0,0))
theorem BxMk.touch {S:Nat→Prop} {w w':World} {b:Nat} {x:MkA} (h:BxMk w b x) (ht:Touch S w w') (hs:¬ S b):BxMk w' b x:=ht.heap h hs
theorem BxMk.below {w w':World} {b:Nat} {x:MkA} (h:BxMk w b x) (hb:Below w.heap.size w w'):BxMk w' b x:=below_heap hb h (lt_of_heap h)
theorem BxMk.row {w:World} {b:Nat} {x:MkA} (h:BxMk w b x):w.rangeAt b 0 x.cells:=rangeAt_row h
theorem BxMk.cells {w:World} {b:Nat} {x:MkA} (h:BxMk w b x):w.cell? ⟨b,0,none⟩=some (.slice x.ra x.rn x.rc)∧w.cell? ⟨b,1,none⟩=some (.slice x.ba x.bn x.bc)∧w.cell? ⟨b,2,none⟩=some (.slice x.oa x.on x.oc):=by
 refine ⟨?_,?_,?_⟩ <;> (rw [cell_of_block h];rfl)
theorem MkA.one (x:MkA):∀ v ∈ x.cells,v.oneCell'=true:=mkt_one _ _ _ _ _ _ _ _ _
def BxAc (w:World) (b:Nat) (y:AcV):Prop:=w.heap[b]?=some (.cells y.cells.toArray 63 (0,0))
theorem BxAc.touch {S:Nat→Prop} {w w':World} {b:Nat} {y:AcV} (h:BxAc w b y) (ht:Touch S w w') (hs:¬ S b):BxAc w' b y:=ht.heap h hs
theorem BxAc.below {w w':World} {b:Nat} {y:AcV} (h:BxAc w b y) (hb:Below w.heap.size w w'):BxAc w' b y:=below_heap hb h (lt_of_heap h)
theorem BxAc.row {w:World} {b:Nat} {y:AcV} (h:BxAc w b y):w.rangeAt b 0 y.cells:=rangeAt_row h
theorem BxAc.rec {w:World} {b:Nat} {y:AcV} (h:BxAc w b y):w.rangeAt b 2 [.int .u32 y.r.sq,.bool y.r.st,.slice y.r.a y.r.n y.r.c]:=fun j v hj=>by
 have:=h.row (2+j) v (by
   match j,hj with
   | 0,hj=>exact hj
   | 1,hj=>exact hj
   | 2,hj=>exact hj)
 rwa [Nat.zero_add] at this
theorem BxAc.cells {w:World} {b:Nat} {y:AcV} (h:BxAc w b y):w.cell? ⟨b,0,none⟩=some (.int .u8 y.k)∧w.cell? ⟨b,1,none⟩=some (.int .i64 y.who)∧w.cell? ⟨b,2,none⟩=some (.int .u32 y.r.sq)∧w.cell? ⟨b,3,none⟩=some (.bool y.r.st)∧w.cell? ⟨b,4,none⟩=some (.slice y.r.a y.r.n y.r.c)∧w.cell? ⟨b,5,none⟩=some (.int .u8 y.p)∧w.cell? ⟨b,6,none⟩=some (.slice y.oa y.on y.oc)∧w.cell? ⟨b,7,none⟩=some (.int .i64 y.n)∧w.cell? ⟨b,8,none⟩=some (.int .i64 y.at_)∧w.cell? ⟨b,9,none⟩=some (.slice y.ba y.bn y.bc):=by
 refine ⟨?_,?_,?_,?_,?_,?_,?_,?_,?_,?_⟩ <;> (rw [cell_of_block h];rfl)
theorem AcV.one (y:AcV):∀ v ∈ y.cells,v.oneCell'=true:=by
 intro v hv
 simp only [AcV.cells,List.mem_cons,List.not_mem_nil,or_false] at hv
 rcases hv with rfl | rfl | rfl | rfl | rfl | rfl | rfl | rfl | rfl | rfl <;> rfl
structure PlS (W w:World) (bd bl rd rl rc bk cnt bc:Nat) (x:StA) (c:StC) (s t:Value) (D R:Dsk):Prop where
 q:QSt W w bd bl rd rl rc bk cnt D R
 p:Prs W w bd bl rd rl rc s t D R
 b:BxCf w bc x c
theorem PlS.after {W w w':World} {bd bl rd rl rc bk cnt bc:Nat} {x:StA} {c:StC} {s t:Value} {D R:Dsk} (h:PlS W w bd bl rd rl rc bk cnt bc x c s t D R) (hb:Below w.heap.size w w'):PlS W w' bd bl rd rl rc bk cnt bc x c s t D R :=
 ⟨h.q.after hb,h.p.after hb,h.b.below hb⟩
theorem PlS.ref1 {W w w1:World} {bd bl rd rl rc bk cnt bc:Nat} {x:StA} {c:StC} {s t:Value} {D R:Dsk} (h:PlS W w bd bl rd rl rc bk cnt bc x c s t D R) (h1:Touch (fun k=>k=bd∨k=bl) w w1):IsRef w1 W.heap.size rd rl rc R∧Below W.heap.size W w1 :=
 ⟨h.q.ref.touch h1 (noRefD h.q.disk),h.q.below.trans (h1.below h.q.below.size (fun k hk e=>by have:=h.q.dge;omega))⟩
theorem PlS.both {W w w1 w2:World} {bd bl rd rl rc bk cnt bc:Nat} {x:StA} {c:StC} {s t:Value} {D R D' R':Dsk} (h:PlS W w bd bl rd rl rc bk cnt bc x c s t D R) (h1:Touch (fun k=>k=bd∨k=bl) w w1) (hd:IsDisk w1 bd bl D') (h2:Touch (fun k=>k=rd∨k=rl) w1 w2) (hr:IsRef w2 W.heap.size rd rl rc R') (hs:Same D' R'):PlS W w2 bd bl rd rl rc bk cnt bc x c s t D' R' :=
 ⟨h.q.both h1 hd h2 hr hs,h.p.both h1 hd h2 hr,(h.b.touch h1 (diskNe h.q.disk h.b (by decide) (by decide))).touch h2 (refNe (h.ref1 h1).1 (h.b.touch h1 (diskNe h.q.disk h.b (by decide) (by decide))) (by decide) (by decide))⟩
theorem Prs.kept {W w w1:World} {bd bl rd rl rc:Nat} {s t:Value} {D R:Dsk} (h:Prs W w bd bl rd rl rc s t D R) (h1:Touch (BkS w W.heap.size) w w1):Prs W w1 bd bl rd rl rc s t D R:=by
 rcases h with h | ⟨bs,ts,x,y,c,e1,e2,h3⟩
 · exact .inl h
 · exact .inr ⟨bs,ts,x,y,c,e1,e2,h3.kept h1⟩
theorem PlS.kept {W w w1:World} {bd bl rd rl rc bk cnt cnt' bc hi:Nat} {x:StA} {c:StC} {s t:Value} {D R:Dsk} (h:PlS W w bd bl rd rl rc bk cnt bc x c s t D R) (h1:Touch (BkS w W.heap.size) w w1) (hk:BkP w1 W.heap.size bk (QL hi rd rl) cnt'):PlS W w1 bd bl rd rl rc bk cnt' bc x c s t D R :=
 ⟨h.q.kept h1 hk (fun k hk=>.inr hk.2),h.p.kept h1,h.b.touch h1 (bkS_not h.b (by decide) (fun κ=>by cases κ <;> decide))⟩
theorem PlS.more {W w:World} {bd bl rd rl rc bk cnt cnt' bc:Nat} {x:StA} {c:StC} {s t:Value} {D R:Dsk} (h:PlS W w bd bl rd rl rc bk cnt bc x c s t D R) (hc:cnt≤cnt'):PlS W w bd bl rd rl rc bk cnt' bc x c s t D R :=
 ⟨⟨h.q.below,h.q.disk,h.q.dge,h.q.ref,h.q.same,h.q.book.mono (fun k hk=>hk) hc⟩,h.p,h.b⟩
theorem StB.made {W w5 w6:World} {bd bl rd rl rc bs ts B1 B2:Nat} {x y:StA} {c:StC} {D R R0:Dsk} (h1:IsStore w5 bs bd bl x c D) (h2:CfT B1 w5 x c) (hr:IsRef w5 W.heap.size rd rl rc R0) (ht:Touch (fun k=>k=rd∨k=rl) w5 w6) (h3:IsRS w6 ts W.heap.size rd rl rc y c R) (h4:CfT B2 w6 y c) (hB1:W.heap.size≤B1) (hB2:W.heap.size≤B2) (k1:rd<B1∧rl<B1) (k2:rd<B2∧rl<B2) (hm:mayB c=true):StB W w6 bd bl rd rl rc bs ts x y c D R:=by
 have hp:=CfP.of h2 hB1 k1.1 k1.2
 exact ⟨h1.away hp ht (refNe hr h1.cells (by decide) (by decide)) (refNe hr h1.disk.cells (by decide) (by decide)) (refNe hr h1.disk.row (by decide) (by decide)) (fun k _ _ hk=>hk),h3,hm,hp.touch ht (fun k _ _ hk=>hk),CfP.of h4 hB2 k2.1 k2.2⟩
theorem noU8D {w:World} {bd bl:Nat} {D:Dsk} (h:IsDisk w bd bl D):∀ k,(k=bd∨k=bl)→∀ cur t fz,w.heap[k]?=some (.cells cur t fz)→t≠5:=fun k hk cur t fz hc e=>diskNe h hc (by rw [e];decide) (by rw [e];decide) hk
theorem noU8R {w:World} {B rd rl rc:Nat} {R:Dsk} (h:IsRef w B rd rl rc R):∀ k,(k=rd∨k=rl)→∀ cur t fz,w.heap[k]?=some (.cells cur t fz)→t≠5:=fun k hk cur t fz hc e=>refNe h hc (by rw [e];decide) (by rw [e];decide) hk
def PlCut (W:World) (bk cnt bc hx:Nat) (k:Int) (x:StA) (c:StC) (y:AcV) (d m s t:Value) (wx:World):Prop :=
 ∃ (bd bl rd rl rc:Nat) (D R:Dsk),d=.pointer (some ⟨bd,0,none⟩)∧m=.pointer (some ⟨rd,0,none⟩)∧PlS W wx bd bl rd rl rc bk cnt bc x c s t D R∧D.fine k∧BxAc wx hx y
theorem fuse_fine {D:Dsk} {k:Int} (h:D.fine k) {n:Int} (hn:n≤12):(if D.blown then D else { D with left:=n }).fine k:=by
 split
 · exact h
 · exact ⟨h.1,h.2.1,by dsimp only;omega⟩
theorem newD_fine' (n:Nat):(⟨List.replicate n zsec,-1,false,0⟩:Dsk).fine 0:=⟨by dsimp only;omega,by dsimp only;omega,by dsimp only;omega⟩
structure Bx5 (w:World) (b1:Nat) (x:StA) (c:StC) (b2 b3:Nat) (sq:Nat) (st:Bool) (a1:Option Addr) (n1:Nat) (a2:Option Addr) (n2 k2:Nat) (b4:Nat) (m1:MkA) (b5:Nat) (m2:MkA):Prop where
 c:BxCf w b1 x c
 r:BxRc w b2 sq st a1 n1 n1
 q:BxRc w b3 sq st a2 n2 k2
 m:BxMk w b4 m1
 p:BxMk w b5 m2
theorem Bx5.below {w w':World} {b1:Nat} {x:StA} {c:StC} {b2 b3:Nat} {sq:Nat} {st:Bool} {a1:Option Addr} {n1:Nat} {a2:Option Addr} {n2 k2:Nat} {b4:Nat} {m1:MkA} {b5:Nat} {m2:MkA} (h:Bx5 w b1 x c b2 b3 sq st a1 n1 a2 n2 k2 b4 m1 b5 m2) (hb:Below w.heap.size w w'):Bx5 w' b1 x c b2 b3 sq st a1 n1 a2 n2 k2 b4 m1 b5 m2 :=
 ⟨h.c.below hb,h.r.below hb,h.q.below hb,h.m.below hb,h.p.below hb⟩
end Go.Proofs.YtgbikngicidbkaaGreatDoor
