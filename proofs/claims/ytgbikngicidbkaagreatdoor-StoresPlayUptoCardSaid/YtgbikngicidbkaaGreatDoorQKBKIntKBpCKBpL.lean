/- A book is told a list of the kind Int;conditions: those typed. (Written by gen_book.py.) -/
import Derived.Test.YtgbikngicidbkaaGreatDoorQKBaKBkKBKByteListKBKIntList
import Derived.Test.YtgbikngicidbkaaGreatDoorQKBIntKBzKBKByteKBp
namespace Go.Proofs.YtgbikngicidbkaaGreatDoor
open Go.RowKit
set_option linter.unusedVariables false
set_option linter.unusedSimpArgs false
set_option maxRecDepth 100000
set_option maxHeartbeats 4000000 in
theorem keepInt_any (w:World) (B bk N:Nat) (bs:Kd→Value) (H:Kd→List Hl) (h:Bk w B bk N bs H) (x:Hd) (hx:HOk .int w B x) (hap:∀ i (hi:i<(H .int).length),∀ g,(H .int)[i].l.a=some ⟨g,0,none⟩→x.a≠some ⟨g,0,none⟩) (hN:N<1000000) (hH:(H .int).length<1000000) :
   Calls Tryz.prog 94 #[.pointer (some ⟨bk,0,none⟩),x.val] w fun e w' => e=.returned (.tuple #[])∧Touch (BkS w B) w w'∧∃ bs',Bk w' B bk (N+1) bs' (updK H .int (H .int ++ [⟨x,⟨none,0,0⟩,N+1⟩])):=by
 obtain ⟨bo,bc,hbs⟩:=owns_shape (h.part .int).row
 have hP:=h.part .int
 rw [hbs] at hP
 have hb0:=h.cell .int
 rw [hbs] at hb0
 have HBS:=Lib.hid hbs
 obtain ⟨L,hL⟩:∃ L,L=H .int:=⟨_,rfl⟩
 have HL:=Lib.hid hL
 rw [← hL] at hP hb0 hH
 clear hL hbs
 unfold Hd.val
 have f0:w.cell? ⟨bk,0,none⟩=some (.int .i64 N):=by rw [cell_of_block h.book];rfl
 have ff:w.frozen? ⟨bk,0,none⟩=false:=h.frozen 0
 have ht1:Touch (fun k=>k=bk) w (w.setCell ⟨bk,0,none⟩ (.int .i64 ((N:Int)+1))):=(Touch.refl _ _).setCell _ _ (.inl rfl)
 have hb1:(w.setCell ⟨bk,0,none⟩ (.int .i64 ((N:Int)+1))).heap[bk]?=some (.cells (bookC (N+1) bs) 56 (0,0)):=by rw [heap_setCell_same _ _ _ _ _ _ h.book];rfl
 have hrow1:(w.setCell ⟨bk,0,none⟩ (.int .i64 ((N:Int)+1))).ownsRow B 168 3 (.slice bo L.length bc) L.length (hcells L):=owns_touch hP.row ht1 (fun k hk e=>by
   obtain ⟨cur,hc⟩:=owns_block hP.row hk
   exact ty_ne hc h.book (by decide) e)
 have HH:=Lib.hid h
 go_enter Tryz.func94,Tryz.ntmps94
 go_wp2
 generalize w.setCell ⟨bk,0,none⟩ (.int .i64 ((N:Int)+1))=w1 at ht1 hb1 hrow1 ⊢
 have hbx:bs .int=.slice bo L.length bc:=by rw [HBS.out,← HL.out]
 have hbook:∀ (W:World),W.heap[bk]?=some (.cells (bookC (N+1) bs) 56 (0,0))→W.cell? ⟨bk,2,none⟩=some (.slice bo L.length bc):=fun W h=>by rw [cell_of_block h,← hbx];rfl
 have HBO:=Lib.hid hbook
 clear hbook hbx
 have g0:w1.cell? ⟨bk,0,none⟩=some (.int .i64 ((N:Int)+1)):=by rw [cell_of_block hb1];simp [bookC]
 have g1:w1.cell? ⟨bk,2,none⟩=some (.slice bo L.length bc):=HBO.out w1 hb1
 have k0:(w1.alloc (.cells #[.slice x.a x.n x.c,.slice none 0 0,.int .i64 ((N:Int)+1)] 168)).drew.cell? ⟨bk,0,none⟩=some (.int .i64 ((N:Int)+1)):=cell_later (((Below.refl _ _).alloc (Nat.le_refl _) _).drew) g0
 have k1:(w1.alloc (.cells #[.slice x.a x.n x.c,.slice none 0 0,.int .i64 ((N:Int)+1)] 168)).drew.cell? ⟨bk,2,none⟩=some (.slice bo L.length bc):=cell_later (((Below.refl _ _).alloc (Nat.le_refl _) _).drew) g1
 have HR:=Lib.hid hrow1
 have HB:=Lib.hid hb1
 have HT:=Lib.hid ht1
 have hfew:=Lib.hid hP.few
 have hle:=Lib.hid h.le
 have hsz:Hid (B≤w1.heap.size):=Lib.hid (Nat.le_trans h.le (Nat.le_of_lt (lt_of_heap hb1)))
 have hnb:Hid (∀ k,(Value.slice bo L.length bc).ownBlock=some k→¬ (bk=k)):=Lib.hid (fun k hk e=>by
   obtain ⟨cur,hc⟩:=owns_block HR.out hk
   exact ty_ne hc HB.out (by decide) e.symm)
 clear f0 ff ht1 hb1 hrow1 h hP hb0
 go_region_law (first
   | (refine step_append_any (rowH .int) rfl (.tmp 15) (.tmp 22) (by rfl) B (.slice bo L.length bc) L.length (hcells L) (by simp [Act.eval,Act.put]) (owns_below HR.out (by first | exact ((Below.refl _ _).alloc (Nat.le_refl _) _).drew | exact ((Below.refl _ _).drew).alloc (by simp) _ | exact ((Below.refl _ _).alloc (Nat.le_refl _) _))) (some ⟨w1.heap.size,0,none⟩) 1 1 [.slice x.a x.n x.c,.slice none 0 0,.int .i64 ((N:Int)+1)] (by simp [Act.eval,Act.put]) rfl (At.row3 _ _ _ _ _) (one3 _ _ _ _) (by unfold maxLen;omega) (by omega) (Nat.le_trans hsz.out (by simp)) ?_;intro b8 c8 w8 hown8 hg8 hat8;have hT8:Touch (fun k=>(Value.slice bo L.length bc).ownBlock=some k) w1 w8:=grown_touch (by first | exact ((Below.refl _ _).alloc (Nat.le_refl _) _).drew | exact ((Below.refl _ _).drew).alloc (by simp) _ | exact ((Below.refl _ _).alloc (Nat.le_refl _) _)) hg8;have hb8:=hT8.heap HB.out (fun e=>hnb.out bk e rfl);have q1:w8.cell? ⟨bk,2,none⟩=some (.slice bo L.length bc):=HBO.out w8 hb8;have qf:w8.frozen? ⟨bk,2,none⟩=false:=blk_frozen hb8)
   | fail)
 all_goals
   have E:Touch (BkS w B) w (w8.setCell ⟨bk,2,none⟩ (.slice b8 (L.length+1) c8))∧Bk (w8.setCell ⟨bk,2,none⟩ (.slice b8 (L.length+1) c8)) B bk (N+1) (updK bs .int (.slice b8 (L.length+1) c8)) (updK H .int (H .int ++ [⟨x,⟨none,0,0⟩,N+1⟩])):=by
     have e:=HL.out
     subst e
     exact bk_keep_end HH.out HBS.out hx hap hN hH HT.out hT8 hb8 hown8
   clear hg8 hat8 hown8 hT8 hb8 q1 qf
   go_end0
   exact ⟨rfl,E.1,_,E.2⟩
theorem ints_p (w:World) (B bk:Nat) (P:Nat→Prop) (c:Nat) (h:BkP w B bk P c) (x:Hd) (hx:HOk .int w B x) (hn:x.n≤100000000) (hap:∀ g,x.a=some ⟨g,0,none⟩→¬ P g) (hc:c<1000000) :
   Calls Tryz.prog 44 #[.pointer (some ⟨bk,0,none⟩),x.val] w fun e w' => e=.returned (.tuple #[])∧Touch (BkS w B) w w'∧BkP w' B bk (fun k=>P k∨x.a=some ⟨k,0,none⟩) (c+1):=by
 obtain ⟨N,bs,H,h1,h2,h3,h4,h5⟩:=h
 have h6:=h3 .int
 have HK:=keepInt_any w B bk N bs H h1 x hx (fun i hi g e e2=>hap g e2 (h5 .int g ⟨i,hi,e⟩)) (by omega) (by omega)
 have HE:=Lib.hid (fun (w':World) (bs':Kd→Value) (hb:Bk w' B bk (N+1) bs' (updK H .int (H .int ++ [⟨x,⟨none,0,0⟩,N+1⟩])))=>BkP.more h2 h3 h4 h5 hn hb)
 clear h1 h2 h3 h4 h5 h6 hap hx hn hc
 go_enter Tryz.func44,Tryz.ntmps44
 go_wp2_with fail
 refine HK.mono ?_
 rintro e w1 ⟨rfl,t1,bs',b1⟩
 have HT:=Lib.hid t1
 have HB:=Lib.hid (HE.out w1 bs' b1)
 clear t1 b1 HK
 go_wp2_with fail
 go_end0
 exact ⟨rfl,HT.out,HB.out⟩
theorem bls_p (w:World) (B bk:Nat) (P:Nat→Prop) (c:Nat) (h:BkP w B bk P c) (x:Hd) (hx:HOk .bl w B x) (hn:x.n≤100000000) (hap:∀ g,x.a=some ⟨g,0,none⟩→¬ P g) (hc:c<1000000) :
   Calls Tryz.prog 143 #[.pointer (some ⟨bk,0,none⟩),x.val] w fun e w' => e=.returned (.tuple #[])∧Touch (BkS w B) w w'∧BkP w' B bk (fun k=>P k∨x.a=some ⟨k,0,none⟩) (c+1):=by
 obtain ⟨N,bs,H,h1,h2,h3,h4,h5⟩:=h
 have h6:=h3 .bl
 refine (keepByteList_any w B bk N bs H h1 x hx (fun i hi g e e2=>hap g e2 (h5 .bl g ⟨i,hi,e⟩)) (by omega) (by omega)).mono ?_
 rintro e w1 ⟨he,t1,bs',b1⟩
 exact ⟨he,t1,BkP.more h2 h3 h4 h5 hn b1⟩
theorem bkS_types {w:World} {B k:Nat} (h:BkS w B k) {cur:Array Value} {t:TypeId} {fz:Nat × Nat} (hc:w.heap[k]?=some (.cells cur t fz)):t=56∨∃ κ:Kd,t=κ.hd:=by
 obtain ⟨_,cur2,t2,fz2,hc2,ht⟩:=h
 rw [hc] at hc2
 rw [(Obj.cells.inj (Option.some.inj hc2)).2.1];exact ht
theorem bkS_not {w:World} {B k:Nat} {cur:Array Value} {t:TypeId} {fz:Nat × Nat} (hc:w.heap[k]?=some (.cells cur t fz)) (h1:t≠56) (h2:∀ κ:Kd,t≠κ.hd):¬ BkS w B k:=fun h=>by
 rcases bkS_types h hc with e | ⟨κ,e⟩
 · exact h1 e
 · exact h2 κ e
theorem HOk.keep {κ:Kd} {w w':World} {B:Nat} {x:Hd} (h:HOk κ w B x) (ht:Touch (BkS w B) w w'):HOk κ w' B x:=h.touch ht (fun g hg=>by
 obtain ⟨cur,hc,_⟩:=h.block hg
 exact bkS_not hc (κ.types κ).2.2.1 (fun κ' e=>(κ'.types κ).1 e.symm))
theorem BkS.step {w w':World} {B k:Nat} (ht:Touch (BkS w B) w w') (h:BkS w' B k) (hk:k<w.heap.size):BkS w B k:=by
 rcases Classical.em (BkS w B k) with h1 | h1
 · exact h1
 · obtain ⟨hB,cur,t,fz,hc,htt⟩:=h
   rw [ht.block k hk h1] at hc
   exact ⟨hB,cur,t,fz,hc,htt⟩
theorem Touch.books {w w1 w2:World} {B:Nat} (h1:Touch (BkS w B) w w1) (h2:Touch (BkS w1 B) w1 w2):Touch (BkS w B) w w2 :=
 ⟨h2.os.trans h1.os,h2.tape.trans h1.tape,h2.output.trans h1.output,Nat.le_trans h1.size h2.size,fun k hk hs=>(h2.block k (Nat.lt_of_lt_of_le hk h1.size) (fun h=>hs (h.step h1 hk))).trans (h1.block k hk hs)⟩
structure CfgH where
 R:Hd
 SL:Hd
 S:List Hd
 A:Hd
 U:Hd
def CfgH.bs (x:CfgH):List Hd:=x.S ++ [x.A,x.U]
theorem CfgH.bs_len (x:CfgH):x.bs.length=x.S.length+2:=by simp [CfgH.bs]
theorem CfgH.bs_S (x:CfgH) (i:Nat) (hi:i<x.S.length):∃ h:i<x.bs.length,x.bs[i]'h=x.S[i]:=⟨by rw [x.bs_len];omega,List.getElem_append_left hi⟩
theorem CfgH.bs_A (x:CfgH):∃ h:x.S.length<x.bs.length,x.bs[x.S.length]'h=x.A:=⟨by rw [x.bs_len];omega,by simp [CfgH.bs]⟩
theorem CfgH.bs_U (x:CfgH):∃ h:x.S.length+1<x.bs.length,x.bs[x.S.length+1]'h=x.U:=⟨by rw [x.bs_len];omega,by simp [CfgH.bs]⟩
structure CfgOk (w:World) (B:Nat) (P:Nat→Prop) (x:CfgH):Prop where
 r:HOk .int w B x.R
 sl:HOk .bl w B x.SL
 n:x.SL.n=x.S.length
 cells:∀ i (hi:i<x.S.length),∃ g,x.SL.a=some ⟨g,0,none⟩∧w.cell? ⟨g,i,none⟩=some x.S[i].val
 b:∀ y ∈ x.bs,HOk .byte w B y∧y.n≤100000000∧∀ g,y.a=some ⟨g,0,none⟩→¬ P g
 rn:x.R.n≤100000000∧∀ g,x.R.a=some ⟨g,0,none⟩→¬ P g
 sn:x.S.length≤1000∧∀ g,x.SL.a=some ⟨g,0,none⟩→¬ P g
 apart:∀ i j (hi:i<x.bs.length) (hj:j<x.bs.length),i≠j→∀ g,x.bs[i].a=some ⟨g,0,none⟩→x.bs[j].a≠some ⟨g,0,none⟩
theorem CfgOk.keep {w w':World} {B:Nat} {P:Nat→Prop} {x:CfgH} (h:CfgOk w B P x) (ht:Touch (BkS w B) w w'):CfgOk w' B P x :=
 ⟨h.r.keep ht,h.sl.keep ht,h.n,fun i hi=>by
   obtain ⟨g,e,hc⟩:=h.cells i hi
   obtain ⟨cur,hb,_⟩:=h.sl.block e
   exact ⟨g,e,ht.cell hc (bkS_not hb (by decide) (fun κ=>by cases κ <;> decide))⟩,fun y hy=>⟨(h.b y hy).1.keep ht,(h.b y hy).2⟩,h.rn,h.sn,h.apart⟩
set_option maxHeartbeats 2000000 in
theorem byteLists_p (w:World) (B bk:Nat) (P:Nat→Prop) (c:Nat) (h:BkP w B bk P c) (S:List Hd) (SL:Hd) (hsl:HOk .bl w B SL) (hn:SL.n=S.length) (hs:S.length≤1000)
   (hcell:∀ i (hi:i<S.length),∃ g,SL.a=some ⟨g,0,none⟩∧w.cell? ⟨g,i,none⟩=some S[i].val) (hb:∀ y ∈ S,HOk .byte w B y∧y.n≤100000000∧∀ g,y.a=some ⟨g,0,none⟩→¬ P g) (hslp:∀ g,SL.a=some ⟨g,0,none⟩→¬ P g)
   (hap:∀ i j (hi:i<S.length) (hj:j<S.length),i≠j→∀ g,S[i].a=some ⟨g,0,none⟩→S[j].a≠some ⟨g,0,none⟩) (hc:c+2000<1000000) :
   Calls Tryz.prog 66 #[.pointer (some ⟨bk,0,none⟩),SL.val] w fun e w' => e=.returned (.tuple #[])∧Touch (BkS w B) w w'∧BkP w' B bk (fun k=>(P k∨∃ y ∈ S,y.a=some ⟨k,0,none⟩)∨SL.a=some ⟨k,0,none⟩) (c+S.length+1):=by
 obtain ⟨sa,sn,sc⟩:=SL
 dsimp only at hn hcell hslp
 subst hn
 have hscm:=hsl.len
 have hcap:S.length≤sc∧sc≤maxLen:=by
   obtain ⟨cur,s,_⟩:=hsl
   rcases s with ⟨_,s,s2,_⟩ | ⟨_,_,_,s4,s5,s6⟩
   · dsimp only at s s2;rw [s,s2];exact ⟨Nat.le_refl _,Nat.zero_le _⟩
   · exact ⟨s4,s6⟩
 have HSL:=Lib.hid hsl
 have HCELL:=Lib.hid hcell
 have HB:=Lib.hid hb
 have HSP:=Lib.hid hslp
 have HAP:=Lib.hid hap
 have H0:=Lib.hid h
 obtain ⟨hcap1,hcap2⟩:=hcap
 unfold Hd.val
 dsimp only
 clear h hsl hcell hb hslp hap hscm
 go_enter Tryz.func66,Tryz.ntmps66
 go_wp2_with fail
 obtain ⟨M,hM⟩:∃ M,M=S.length:=⟨_,rfl⟩
 have HM:=Lib.hid hM
 clear hM
 go_loopw [4] (fun i wr => ∃ j:Nat,j≤S.length∧i=.int .i64 j∧Hid (Touch (BkS w B) w wr)∧Hid (BkP wr B bk (fun k=>P k∨∃ i,∃ hi:i<S.length,i<j∧S[i].a=some ⟨k,0,none⟩) (c+j))) (fun i _=>M - (intOf i).toNat)
 case atStart=>exact ⟨0,Nat.zero_le _,rfl,Lib.hid (Touch.refl _ _),Lib.hid (H0.out.mono (fun k hk=>.inl hk) (Nat.le_refl _))⟩
 case round =>
   obtain ⟨j,hj,rfl,HT,HP⟩:=hrel
   by_cases hlt:j<S.length
   · obtain ⟨g,hsa,hcg⟩:=HCELL.out j hlt
     subst hsa
     obtain ⟨cur,hgb,_⟩:=HSL.out.block (g:=g) rfl
     have hcg2:wr.cell? ⟨g,j,none⟩=some (.slice S[j].a S[j].n S[j].c):=HT.out.cell hcg (bkS_not hgb (by decide) (fun κ=>by cases κ <;> decide))
     obtain ⟨hy1,hy2,hy3⟩:=HB.out S[j] (List.getElem_mem hlt)
     have HY:=Lib.hid (hy1.keep HT.out)
     have HY3:Hid (∀ g,S[j].a=some ⟨g,0,none⟩→¬ (P g∨∃ i,∃ hi:i<S.length,i<j∧S[i].a=some ⟨g,0,none⟩)):=Lib.hid (fun g e hh=>by
       rcases hh with hh | ⟨i,hi,hij,e2⟩
       · exact hy3 g e hh
       · exact HAP.out i j hi hlt (by omega) g e2 e)
     have hcj:c+j<1000000:=by omega
     clear hcg hgb hy1 hy3
     go_wp2_with fail
     refine (bytes_p wr B bk _ (c+j) HP.out S[j] HY.out hy2 HY3.out hcj).mono ?_
     rintro e w2 ⟨rfl,t2,p2⟩
     have HT2:=Lib.hid (HT.out.books t2)
     have HP2:Hid (BkP w2 B bk (fun k=>P k∨∃ i,∃ hi:i<S.length,i<j+1∧S[i].a=some ⟨k,0,none⟩) (c+(j+1))):=Lib.hid (p2.mono (fun k hk=>by
       rcases hk with (hk | ⟨i,hi,hij,e⟩) | hk
       · exact .inl hk
       · exact .inr ⟨i,hi,by omega,e⟩
       · exact .inr ⟨j,hlt,by omega,hk⟩) (by omega))
     clear t2 p2 HT HP HY HY3
     go_wp2_with fail
     go_roundw
     case rel=>exact ⟨j+1,by omega,by go_num,HT2,HP2⟩
     case measure=>have:=HM.out;simp [intOf];omega
   · have hje:j=S.length:=by omega
     subst hje
     have HSL2:=Lib.hid (HSL.out.keep HT.out)
     have hkk:¬ S.length<S.length:=hlt
     go_wp2_with fail
     refine (bls_p wr B bk _ (c+S.length) HP.out ⟨sa,S.length,sc⟩ HSL2.out (by dsimp only;omega) (fun g e hh=>by
       rcases hh with hh | ⟨i,hi,_,e2⟩
       · exact HSP.out g e hh
       · obtain ⟨cur,hb1,_⟩:=HSL.out.block e
         obtain ⟨cur2,hb2,_⟩:=(HB.out S[i] (List.getElem_mem hi)).1.block e2
         exact ty_ne hb1 hb2 (by decide) rfl) (by omega)).mono ?_
     rintro e w2 ⟨rfl,t2,p2⟩
     have HT2:=Lib.hid (HT.out.books t2)
     have HP2:Hid (BkP w2 B bk (fun k=>(P k∨∃ y ∈ S,y.a=some ⟨k,0,none⟩)∨sa=some ⟨k,0,none⟩) (c+S.length+1)):=Lib.hid (p2.mono (fun k hk=>by
       rcases hk with (hk | ⟨i,hi,_,e⟩) | hk
       · exact .inl (.inl hk)
       · exact .inl (.inr ⟨S[i],List.getElem_mem hi,e⟩)
       · exact .inr hk) (Nat.le_refl _))
     clear t2 p2 HT HP
     go_wp2_with fail
     go_end0
     exact ⟨rfl,HT2.out,HP2.out⟩
def CfgH.blk (x:CfgH) (k:Nat):Prop:=x.R.a=some ⟨k,0,none⟩∨x.SL.a=some ⟨k,0,none⟩∨∃ y ∈ x.bs,y.a=some ⟨k,0,none⟩
set_option maxHeartbeats 2000000 in
theorem config_q (w:World) (B bk:Nat) (P:Nat→Prop) (c:Nat) (h:BkP w B bk P c) (x:CfgH) (hx:CfgOk w B P x) (uv:Value) (hu1:uv.oneCell'=true) (hc:c+3000<1000000) :
   Calls Tryz.prog 12 #[.pointer (some ⟨bk,0,none⟩),.agg #[x.R.val,x.SL.val,x.A.val,x.U.val,uv]] w fun e w' => e=.returned (.tuple #[])∧Touch (BkS w B) w w'∧BkP w' B bk (fun k=>P k∨x.blk k) (c+x.S.length+4):=by
 have hbe:Below w.heap.size w (w.alloc (.cells #[x.R.val,x.SL.val,x.A.val,x.U.val,uv] 27)):=(Below.refl _ _).alloc (Nat.le_refl _) _
 have hv:=heap_new w (.cells #[x.R.val,x.SL.val,x.A.val,x.U.val,uv] 27 (0,0))
 have H0:=Lib.hid (h.below hbe)
 have X0:=Lib.hid (hx.keep (Touch.of_below hbe))
 have T0:Hid (Touch (BkS w B) w _):=Lib.hid (Touch.of_below hbe)
 have HV:=Lib.hid hv
 have HX:=Lib.hid hx
 have hsn:=hx.sn.1
 clear h hx hbe hv
 unfold Hd.val at T0 HV H0 X0 ⊢
 go_enter Tryz.func12,Tryz.ntmps12
 go_wp2_with fail
 generalize w.alloc (.cells #[.slice x.R.a x.R.n x.R.c,.slice x.SL.a x.SL.n x.SL.c,.slice x.A.a x.A.n x.A.c,.slice x.U.a x.U.n x.U.c,uv] 27)=w0 at T0 HV H0 X0 ⊢
 have hcs:∀ (W:World),W.heap[w.heap.size]?=some (.cells #[.slice x.R.a x.R.n x.R.c,.slice x.SL.a x.SL.n x.SL.c,.slice x.A.a x.A.n x.A.c,.slice x.U.a x.U.n x.U.c,uv] 27 (0,0))→W.cell? ⟨w.heap.size,1,none⟩=some (.slice x.SL.a x.SL.n x.SL.c)∧W.cell? ⟨w.heap.size,2,none⟩=some (.slice x.A.a x.A.n x.A.c)∧W.cell? ⟨w.heap.size,3,none⟩=some (.slice x.U.a x.U.n x.U.c):=fun W h=>by
   refine ⟨?_,?_,?_⟩ <;> (rw [cell_of_block h];rfl)
 have hkp:∀ (W W':World),Touch (BkS W B) W W'→W.heap[w.heap.size]?=some (.cells #[.slice x.R.a x.R.n x.R.c,.slice x.SL.a x.SL.n x.SL.c,.slice x.A.a x.A.n x.A.c,.slice x.U.a x.U.n x.U.c,uv] 27 (0,0))→W'.heap[w.heap.size]?=some (.cells #[.slice x.R.a x.R.n x.R.c,.slice x.SL.a x.SL.n x.SL.c,.slice x.A.a x.A.n x.A.c,.slice x.U.a x.U.n x.U.c,uv] 27 (0,0)):=fun W W' t h=>t.heap h (bkS_not h (by decide) (fun κ=>by cases κ <;> decide))
 have HCS:=Lib.hid hcs
 have HKP:=Lib.hid hkp
 clear hcs hkp
 refine (ints_p w0 B bk P c H0.out x.R X0.out.r HX.out.rn.1 HX.out.rn.2 (by omega)).mono ?_
 rintro e w1 ⟨rfl,t1,p1⟩
 have X1:=Lib.hid (X0.out.keep t1)
 have T1:=Lib.hid (T0.out.books t1)
 have HV1:=Lib.hid (HKP.out _ _ t1 HV.out)
 have P1:=Lib.hid p1
 clear t1 p1 X0 T0 HV H0
 obtain ⟨v1,v2,v3⟩:=HCS.out w1 HV1.out
 go_wp2_with fail
 have hR:∀ g,x.R.a=some ⟨g,0,none⟩→∀ y ∈ x.bs,y.a≠some ⟨g,0,none⟩:=fun g e y hy e2=>by
   obtain ⟨cur,h1,_⟩:=X1.out.r.block e
   obtain ⟨cur2,h2,_⟩:=(X1.out.b y hy).1.block e2
   exact ty_ne h1 h2 (by decide) rfl
 have hRS:∀ g,x.R.a=some ⟨g,0,none⟩→x.SL.a≠some ⟨g,0,none⟩:=fun g e e2=>by
   obtain ⟨cur,h1,_⟩:=X1.out.r.block e
   obtain ⟨cur2,h2,_⟩:=X1.out.sl.block e2
   exact ty_ne h1 h2 (by decide) rfl
 have hSB:∀ g,x.SL.a=some ⟨g,0,none⟩→∀ y ∈ x.bs,y.a≠some ⟨g,0,none⟩:=fun g e y hy e2=>by
   obtain ⟨cur,h1,_⟩:=X1.out.sl.block e
   obtain ⟨cur2,h2,_⟩:=(X1.out.b y hy).1.block e2
   exact ty_ne h1 h2 (by decide) rfl
 have HR:=Lib.hid hR
 have HRS:=Lib.hid hRS
 have HSB:=Lib.hid hSB
 have hmem:∀ y ∈ x.S,y ∈ x.bs:=fun y hy=>by unfold CfgH.bs;exact List.mem_append_left _ hy
 have HMEM:=Lib.hid hmem
 clear hR hRS hSB hmem
 refine (byteLists_p w1 B bk _ (c+1) P1.out x.S x.SL X1.out.sl X1.out.n hsn X1.out.cells (fun y hy=>⟨(X1.out.b y (HMEM.out y hy)).1,(X1.out.b y (HMEM.out y hy)).2.1,fun g e hh=>by
   rcases hh with hh | hh
   · exact (X1.out.b y (HMEM.out y hy)).2.2 g e hh
   · exact HR.out g hh y (HMEM.out y hy) e⟩) (fun g e hh=>by
   rcases hh with hh | hh
   · exact X1.out.sn.2 g e hh
   · exact HRS.out g hh e) (fun i j hi hj hij g e=>by
   obtain ⟨a1,a2⟩:=x.bs_S i hi
   obtain ⟨b1,b2⟩:=x.bs_S j hj
   rw [← a2] at e
   rw [← b2]
   exact X1.out.apart i j a1 b1 hij g e) (by omega)).mono ?_
 rintro e w2 ⟨rfl,t2,p2⟩
 have X2:=Lib.hid (X1.out.keep t2)
 have T2:=Lib.hid (T1.out.books t2)
 have HV2:=Lib.hid (HKP.out _ _ t2 HV1.out)
 have P2:=Lib.hid p2
 clear t2 p2 X1 T1 HV1 P1 v1 v2 v3
 obtain ⟨v1,v2,v3⟩:=HCS.out w2 HV2.out
 go_wp2_with fail
 have hlen:=x.bs_len
 obtain ⟨hA1,hA⟩:=x.bs_A
 obtain ⟨hU1,hU⟩:=x.bs_U
 have hAm:x.A ∈ x.bs:=by unfold CfgH.bs;simp
 have hUm:x.U ∈ x.bs:=by unfold CfgH.bs;simp
 have hAS:∀ y ∈ x.S,∀ g,y.a=some ⟨g,0,none⟩→x.A.a≠some ⟨g,0,none⟩∧x.U.a≠some ⟨g,0,none⟩:=fun y hy g e=>by
   obtain ⟨i,hi,rfl⟩:=List.getElem_of_mem hy
   obtain ⟨a1,a2⟩:=x.bs_S i hi
   rw [← a2] at e
   have h1:=X2.out.apart i x.S.length a1 hA1 (by omega) g e
   have h2:=X2.out.apart i (x.S.length+1) a1 hU1 (by omega) g e
   rw [hA] at h1
   rw [hU] at h2
   exact ⟨h1,h2⟩
 have hAU:∀ g,x.A.a=some ⟨g,0,none⟩→x.U.a≠some ⟨g,0,none⟩:=fun g e=>by
   have h1:=X2.out.apart x.S.length (x.S.length+1) hA1 hU1 (by omega) g (by rw [hA];exact e)
   rwa [hU] at h1
 have HAS:=Lib.hid hAS
 have HAU:=Lib.hid hAU
 have HAM:=Lib.hid hAm
 have HUM:=Lib.hid hUm
 clear hlen hA hU hA1 hU1 hAS hAU hAm hUm
 refine (bytes_p w2 B bk _ (c+1+x.S.length+1) P2.out x.A (X2.out.b _ HAM.out).1 (X2.out.b _ HAM.out).2.1 (fun g e hh=>by
   rcases hh with ((hh | hh) | ⟨y,hy,hh⟩) | hh
   · exact (X2.out.b _ HAM.out).2.2 g e hh
   · exact HR.out g hh _ HAM.out e
   · exact (HAS.out y hy g hh).1 e
   · exact HSB.out g hh _ HAM.out e) (by omega)).mono ?_
 rintro e w3 ⟨rfl,t3,p3⟩
 have X3:=Lib.hid (X2.out.keep t3)
 have T3:=Lib.hid (T2.out.books t3)
 have HV3:=Lib.hid (HKP.out _ _ t3 HV2.out)
 have P3:=Lib.hid p3
 clear t3 p3 X2 T2 HV2 P2 v1 v2 v3
 obtain ⟨v1,v2,v3⟩:=HCS.out w3 HV3.out
 go_wp2_with fail
 refine (bytes_p w3 B bk _ (c+1+x.S.length+1+1) P3.out x.U (X3.out.b _ HUM.out).1 (X3.out.b _ HUM.out).2.1 (fun g e hh=>by
   rcases hh with (((hh | hh) | ⟨y,hy,hh⟩) | hh) | hh
   · exact (X3.out.b _ HUM.out).2.2 g e hh
   · exact HR.out g hh _ HUM.out e
   · exact (HAS.out y hy g hh).2 e
   · exact HSB.out g hh _ HUM.out e
   · exact HAU.out g hh e) (by omega)).mono ?_
 rintro e w4 ⟨rfl,t4,p4⟩
 have T4:=Lib.hid (T3.out.books t4)
 have P4:Hid (BkP w4 B bk (fun k=>P k∨x.blk k) (c+x.S.length+4)):=Lib.hid (p4.mono (fun k hk=>by
   rcases hk with ((((hh | hh) | ⟨y,hy,hh⟩) | hh) | hh) | hh
   · exact .inl hh
   · exact .inr (.inl hh)
   · exact .inr (.inr (.inr ⟨y,HMEM.out y hy,hh⟩))
   · exact .inr (.inr (.inl hh))
   · exact .inr (.inr (.inr ⟨_,HAM.out,hh⟩))
   · exact .inr (.inr (.inr ⟨_,HUM.out,hh⟩))) (show c+1+x.S.length+1+1+1≤c+x.S.length+4 by omega))
 clear t4 p4 T3 P3 X3 HV3 v1 v2 v3
 go_wp2_with fail
 go_end0
 exact ⟨rfl,T4.out,P4.out⟩
theorem ils_p (w:World) (B bk:Nat) (P:Nat→Prop) (c:Nat) (h:BkP w B bk P c) (x:Hd) (hx:HOk .il w B x) (hn:x.n≤100000000) (hap:∀ g,x.a=some ⟨g,0,none⟩→¬ P g) (hc:c<1000000) :
   Calls Tryz.prog 166 #[.pointer (some ⟨bk,0,none⟩),x.val] w fun e w' => e=.returned (.tuple #[])∧Touch (BkS w B) w w'∧BkP w' B bk (fun k=>P k∨x.a=some ⟨k,0,none⟩) (c+1):=by
 obtain ⟨N,bs,H,h1,h2,h3,h4,h5⟩:=h
 have h6:=h3 .il
 refine (keepIntList_any w B bk N bs H h1 x hx (fun i hi g e e2=>hap g e2 (h5 .il g ⟨i,hi,e⟩)) (by omega) (by omega)).mono ?_
 rintro e w1 ⟨he,t1,bs',b1⟩
 exact ⟨he,t1,BkP.more h2 h3 h4 h5 hn b1⟩
set_option maxHeartbeats 2000000 in
theorem intLists_p (w:World) (B bk:Nat) (P:Nat→Prop) (c:Nat) (h:BkP w B bk P c) (S:List Hd) (SL:Hd) (hsl:HOk .il w B SL) (hn:SL.n=S.length) (hs:S.length≤1000)
   (hcell:∀ i (hi:i<S.length),∃ g,SL.a=some ⟨g,0,none⟩∧w.cell? ⟨g,i,none⟩=some S[i].val) (hb:∀ y ∈ S,HOk .int w B y∧y.n≤100000000∧∀ g,y.a=some ⟨g,0,none⟩→¬ P g) (hslp:∀ g,SL.a=some ⟨g,0,none⟩→¬ P g)
   (hap:∀ i j (hi:i<S.length) (hj:j<S.length),i≠j→∀ g,S[i].a=some ⟨g,0,none⟩→S[j].a≠some ⟨g,0,none⟩) (hc:c+2000<1000000) :
   Calls Tryz.prog 95 #[.pointer (some ⟨bk,0,none⟩),SL.val] w fun e w' => e=.returned (.tuple #[])∧Touch (BkS w B) w w'∧BkP w' B bk (fun k=>(P k∨∃ y ∈ S,y.a=some ⟨k,0,none⟩)∨SL.a=some ⟨k,0,none⟩) (c+S.length+1):=by
 obtain ⟨sa,sn,sc⟩:=SL
 dsimp only at hn hcell hslp
 subst hn
 have hscm:=hsl.len
 have hcap:S.length≤sc∧sc≤maxLen:=by
   obtain ⟨cur,s,_⟩:=hsl
   rcases s with ⟨_,s,s2,_⟩ | ⟨_,_,_,s4,s5,s6⟩
   · dsimp only at s s2;rw [s,s2];exact ⟨Nat.le_refl _,Nat.zero_le _⟩
   · exact ⟨s4,s6⟩
 have HSL:=Lib.hid hsl
 have HCELL:=Lib.hid hcell
 have HB:=Lib.hid hb
 have HSP:=Lib.hid hslp
 have HAP:=Lib.hid hap
 have H0:=Lib.hid h
 obtain ⟨hcap1,hcap2⟩:=hcap
 unfold Hd.val
 dsimp only
 clear h hsl hcell hb hslp hap hscm
 go_enter Tryz.func95,Tryz.ntmps95
 go_wp2_with fail
 obtain ⟨M,hM⟩:∃ M,M=S.length:=⟨_,rfl⟩
 have HM:=Lib.hid hM
 clear hM
 go_loopw [4] (fun i wr => ∃ j:Nat,j≤S.length∧i=.int .i64 j∧Hid (Touch (BkS w B) w wr)∧Hid (BkP wr B bk (fun k=>P k∨∃ i,∃ hi:i<S.length,i<j∧S[i].a=some ⟨k,0,none⟩) (c+j))) (fun i _=>M - (intOf i).toNat)
 case atStart=>exact ⟨0,Nat.zero_le _,rfl,Lib.hid (Touch.refl _ _),Lib.hid (H0.out.mono (fun k hk=>.inl hk) (Nat.le_refl _))⟩
 case round =>
   obtain ⟨j,hj,rfl,HT,HP⟩:=hrel
   by_cases hlt:j<S.length
   · obtain ⟨g,hsa,hcg⟩:=HCELL.out j hlt
     subst hsa
     obtain ⟨cur,hgb,_⟩:=HSL.out.block (g:=g) rfl
     have hcg2:wr.cell? ⟨g,j,none⟩=some (.slice S[j].a S[j].n S[j].c):=HT.out.cell hcg (bkS_not hgb (by decide) (fun κ=>by cases κ <;> decide))
     obtain ⟨hy1,hy2,hy3⟩:=HB.out S[j] (List.getElem_mem hlt)
     have HY:=Lib.hid (hy1.keep HT.out)
     have HY3:Hid (∀ g,S[j].a=some ⟨g,0,none⟩→¬ (P g∨∃ i,∃ hi:i<S.length,i<j∧S[i].a=some ⟨g,0,none⟩)):=Lib.hid (fun g e hh=>by
       rcases hh with hh | ⟨i,hi,hij,e2⟩
       · exact hy3 g e hh
       · exact HAP.out i j hi hlt (by omega) g e2 e)
     have hcj:c+j<1000000:=by omega
     clear hcg hgb hy1 hy3
     go_wp2_with fail
     refine (ints_p wr B bk _ (c+j) HP.out S[j] HY.out hy2 HY3.out hcj).mono ?_
     rintro e w2 ⟨rfl,t2,p2⟩
     have HT2:=Lib.hid (HT.out.books t2)
     have HP2:Hid (BkP w2 B bk (fun k=>P k∨∃ i,∃ hi:i<S.length,i<j+1∧S[i].a=some ⟨k,0,none⟩) (c+(j+1))):=Lib.hid (p2.mono (fun k hk=>by
       rcases hk with (hk | ⟨i,hi,hij,e⟩) | hk
       · exact .inl hk
       · exact .inr ⟨i,hi,by omega,e⟩
       · exact .inr ⟨j,hlt,by omega,hk⟩) (by omega))
     clear t2 p2 HT HP HY HY3
     go_wp2_with fail
     go_roundw
     case rel=>exact ⟨j+1,by omega,by go_num,HT2,HP2⟩
     case measure=>have:=HM.out;simp [intOf];omega
   · have hje:j=S.length:=by omega
     subst hje
     have HSL2:=Lib.hid (HSL.out.keep HT.out)
     have hkk:¬ S.length<S.length:=hlt
     go_wp2_with fail
     refine (ils_p wr B bk _ (c+S.length) HP.out ⟨sa,S.length,sc⟩ HSL2.out (by dsimp only;omega) (fun g e hh=>by
       rcases hh with hh | ⟨i,hi,_,e2⟩
       · exact HSP.out g e hh
       · obtain ⟨cur,hb1,_⟩:=HSL.out.block e
         obtain ⟨cur2,hb2,_⟩:=(HB.out S[i] (List.getElem_mem hi)).1.block e2
         exact ty_ne hb1 hb2 (by decide) rfl) (by omega)).mono ?_
     rintro e w2 ⟨rfl,t2,p2⟩
     have HT2:=Lib.hid (HT.out.books t2)
     have HP2:Hid (BkP w2 B bk (fun k=>(P k∨∃ y ∈ S,y.a=some ⟨k,0,none⟩)∨sa=some ⟨k,0,none⟩) (c+S.length+1)):=Lib.hid (p2.mono (fun k hk=>by
       rcases hk with (hk | ⟨i,hi,_,e⟩) | hk
       · exact .inl (.inl hk)
       · exact .inl (.inr ⟨S[i],List.getElem_mem hi,e⟩)
       · exact .inr hk) (Nat.le_refl _))
     clear t2 p2 HT HP
     go_wp2_with fail
     go_end0
     exact ⟨rfl,HT2.out,HP2.out⟩
set_option maxHeartbeats 2000000 in
theorem record_p (w:World) (B bk:Nat) (P:Nat→Prop) (c:Nat) (h:BkP w B bk P c) (x:Hd) (u v:Value) (hu:u.oneCell'=true) (hv:v.oneCell'=true) (hx:HOk .int w B x) (hn:x.n≤100000000) (hap:∀ g,x.a=some ⟨g,0,none⟩→¬ P g) (hc:c<1000000) :
   Calls Tryz.prog 43 #[.pointer (some ⟨bk,0,none⟩),.agg #[u,v,x.val]] w fun e w' => e=.returned (.tuple #[])∧Touch (BkS w B) w w'∧BkP w' B bk (fun k=>P k∨x.a=some ⟨k,0,none⟩) (c+1):=by
 have hbe:Below w.heap.size w (w.alloc (.cells #[u,v,x.val] 60)):=(Below.refl _ _).alloc (Nat.le_refl _) _
 have hv0:=heap_new w (.cells #[u,v,x.val] 60 (0,0))
 have H0:=Lib.hid (ints_p _ B bk P c (h.below hbe) x (hx.keep (Touch.of_below hbe)) hn hap hc)
 have T0:Hid (Touch (BkS w B) w _):=Lib.hid (Touch.of_below hbe)
 have HV:=Lib.hid hv0
 clear h hx hbe hv0 hap
 unfold Hd.val at T0 HV H0 ⊢
 go_enter Tryz.func43,Tryz.ntmps43
 go_wp2_with fail
 generalize w.alloc (.cells #[u,v,.slice x.a x.n x.c] 60)=w0 at T0 HV H0 ⊢
 have v1:w0.cell? ⟨w.heap.size,2,none⟩=some (.slice x.a x.n x.c):=by rw [cell_of_block HV.out];rfl
 go_wp2_with fail
 refine H0.out.mono ?_
 rintro e w1 ⟨rfl,t1,p1⟩
 have T1:=Lib.hid (T0.out.books t1)
 have P1:=Lib.hid p1
 clear t1 p1 T0 H0 HV v1
 go_wp2_with fail
 go_end0
 exact ⟨rfl,T1.out,P1.out⟩
structure MktH where
 R:Hd
 L:Hd
 S:List Hd
 O:Hd
def MktH.is (x:MktH):List Hd:=x.S ++ [x.R,x.O]
theorem MktH.is_len (x:MktH):x.is.length=x.S.length+2:=by simp [MktH.is]
theorem MktH.is_S (x:MktH) (i:Nat) (hi:i<x.S.length):∃ h:i<x.is.length,x.is[i]'h=x.S[i]:=⟨by rw [x.is_len];omega,List.getElem_append_left hi⟩
theorem MktH.is_R (x:MktH):∃ h:x.S.length<x.is.length,x.is[x.S.length]'h=x.R:=⟨by rw [x.is_len];omega,by simp [MktH.is]⟩
theorem MktH.is_O (x:MktH):∃ h:x.S.length+1<x.is.length,x.is[x.S.length+1]'h=x.O:=⟨by rw [x.is_len];omega,by simp [MktH.is]⟩
structure MktOk (w:World) (B:Nat) (P:Nat→Prop) (x:MktH):Prop where
 l:HOk .il w B x.L
 n:x.L.n=x.S.length
 cells:∀ i (hi:i<x.S.length),∃ g,x.L.a=some ⟨g,0,none⟩∧w.cell? ⟨g,i,none⟩=some x.S[i].val
 b:∀ y ∈ x.is,HOk .int w B y∧y.n≤100000000∧∀ g,y.a=some ⟨g,0,none⟩→¬ P g
 ln:x.S.length≤1000∧∀ g,x.L.a=some ⟨g,0,none⟩→¬ P g
 apart:∀ i j (hi:i<x.is.length) (hj:j<x.is.length),i≠j→∀ g,x.is[i].a=some ⟨g,0,none⟩→x.is[j].a≠some ⟨g,0,none⟩
theorem MktOk.keep {w w':World} {B:Nat} {P:Nat→Prop} {x:MktH} (h:MktOk w B P x) (ht:Touch (BkS w B) w w'):MktOk w' B P x :=
 ⟨h.l.keep ht,h.n,fun i hi=>by
   obtain ⟨g,e,hc⟩:=h.cells i hi
   obtain ⟨cur,hb,_⟩:=h.l.block e
   exact ⟨g,e,ht.cell hc (bkS_not hb (by decide) (fun κ=>by cases κ <;> decide))⟩,fun y hy=>⟨(h.b y hy).1.keep ht,(h.b y hy).2⟩,h.ln,h.apart⟩
def MktH.blk (x:MktH) (k:Nat):Prop:=x.L.a=some ⟨k,0,none⟩∨∃ y ∈ x.is,y.a=some ⟨k,0,none⟩
set_option maxHeartbeats 2000000 in
theorem market_p (w:World) (B bk:Nat) (P:Nat→Prop) (c:Nat) (h:BkP w B bk P c) (x:MktH) (hx:MktOk w B P x) (hc:c+3000<1000000) :
   Calls Tryz.prog 45 #[.pointer (some ⟨bk,0,none⟩),.agg #[x.R.val,x.L.val,x.O.val]] w fun e w' => e=.returned (.tuple #[])∧Touch (BkS w B) w w'∧BkP w' B bk (fun k=>P k∨x.blk k) (c+x.S.length+3):=by
 have hbe:Below w.heap.size w (w.alloc (.cells #[x.R.val,x.L.val,x.O.val] 84)):=(Below.refl _ _).alloc (Nat.le_refl _) _
 have hv:=heap_new w (.cells #[x.R.val,x.L.val,x.O.val] 84 (0,0))
 have H0:=Lib.hid (h.below hbe)
 have X0:=Lib.hid (hx.keep (Touch.of_below hbe))
 have T0:Hid (Touch (BkS w B) w _):=Lib.hid (Touch.of_below hbe)
 have HV:=Lib.hid hv
 have hsn:=hx.ln.1
 obtain ⟨hR1,hR⟩:=x.is_R
 obtain ⟨hO1,hO⟩:=x.is_O
 have hlen:=x.is_len
 have hRm:x.R ∈ x.is:=by unfold MktH.is;simp
 have hOm:x.O ∈ x.is:=by unfold MktH.is;simp
 have hSm:∀ y ∈ x.S,y ∈ x.is:=fun y hy=>by unfold MktH.is;exact List.mem_append_left _ hy
 have hSa:∀ y ∈ x.S,∀ g,y.a=some ⟨g,0,none⟩→x.R.a≠some ⟨g,0,none⟩∧x.O.a≠some ⟨g,0,none⟩:=fun y hy g e=>by
   obtain ⟨i,hi,rfl⟩:=List.getElem_of_mem hy
   obtain ⟨a1,a2⟩:=x.is_S i hi
   rw [← a2] at e
   have h1:=hx.apart i x.S.length a1 hR1 (by omega) g e
   have h2:=hx.apart i (x.S.length+1) a1 hO1 (by omega) g e
   rw [hR] at h1
   rw [hO] at h2
   exact ⟨h1,h2⟩
 have hRO:∀ g,x.R.a=some ⟨g,0,none⟩→x.O.a≠some ⟨g,0,none⟩:=fun g e=>by
   have h1:=hx.apart x.S.length (x.S.length+1) hR1 hO1 (by omega) g (by rw [hR];exact e)
   rwa [hO] at h1
 have hLy:∀ y ∈ x.is,∀ g,y.a=some ⟨g,0,none⟩→x.L.a≠some ⟨g,0,none⟩:=fun y hy g e e2=>by
   obtain ⟨cur,h1,_⟩:=(hx.b y hy).1.block e
   obtain ⟨cur2,h2,_⟩:=hx.l.block e2
   exact ty_ne h1 h2 (by decide) rfl
 have HSA:=Lib.hid hSa
 have HRO:=Lib.hid hRO
 have HLY:=Lib.hid hLy
 have HRM:=Lib.hid hRm
 have HOM:=Lib.hid hOm
 have HSM:=Lib.hid hSm
 clear h hx hbe hv hR1 hR hO1 hO hlen hRm hOm hSm hSa hRO hLy
 unfold Hd.val at T0 HV H0 X0 ⊢
 go_enter Tryz.func45,Tryz.ntmps45
 go_wp2_with fail
 generalize w.alloc (.cells #[.slice x.R.a x.R.n x.R.c,.slice x.L.a x.L.n x.L.c,.slice x.O.a x.O.n x.O.c] 84)=w0 at T0 HV H0 X0 ⊢
 have hcs:∀ (W:World),W.heap[w.heap.size]?=some (.cells #[.slice x.R.a x.R.n x.R.c,.slice x.L.a x.L.n x.L.c,.slice x.O.a x.O.n x.O.c] 84 (0,0))→W.cell? ⟨w.heap.size,0,none⟩=some (.slice x.R.a x.R.n x.R.c)∧W.cell? ⟨w.heap.size,1,none⟩=some (.slice x.L.a x.L.n x.L.c)∧W.cell? ⟨w.heap.size,2,none⟩=some (.slice x.O.a x.O.n x.O.c):=fun W h=>by
   refine ⟨?_,?_,?_⟩ <;> (rw [cell_of_block h];rfl)
 have hkp:∀ (W W':World),Touch (BkS W B) W W'→W.heap[w.heap.size]?=some (.cells #[.slice x.R.a x.R.n x.R.c,.slice x.L.a x.L.n x.L.c,.slice x.O.a x.O.n x.O.c] 84 (0,0))→W'.heap[w.heap.size]?=some (.cells #[.slice x.R.a x.R.n x.R.c,.slice x.L.a x.L.n x.L.c,.slice x.O.a x.O.n x.O.c] 84 (0,0)):=fun W W' t h=>t.heap h (bkS_not h (by decide) (fun κ=>by cases κ <;> decide))
 have HCS:=Lib.hid hcs
 have HKP:=Lib.hid hkp
 clear hcs hkp
 refine (ints_p w0 B bk P c H0.out x.R (X0.out.b _ HRM.out).1 (X0.out.b _ HRM.out).2.1 (X0.out.b _ HRM.out).2.2 (by omega)).mono ?_
 rintro e w1 ⟨rfl,t1,p1⟩
 have X1:=Lib.hid (X0.out.keep t1)
 have T1:=Lib.hid (T0.out.books t1)
 have HV1:=Lib.hid (HKP.out _ _ t1 HV.out)
 have P1:=Lib.hid p1
 clear t1 p1 X0 T0 HV H0
 obtain ⟨v1,v2,v3⟩:=HCS.out w1 HV1.out
 go_wp2_with fail
 refine (intLists_p w1 B bk _ (c+1) P1.out x.S x.L X1.out.l X1.out.n hsn X1.out.cells (fun y hy=>⟨(X1.out.b y (HSM.out y hy)).1,(X1.out.b y (HSM.out y hy)).2.1,fun g e hh=>by
   rcases hh with hh | hh
   · exact (X1.out.b y (HSM.out y hy)).2.2 g e hh
   · exact (HSA.out y hy g e).1 hh⟩) (fun g e hh=>by
   rcases hh with hh | hh
   · exact X1.out.ln.2 g e hh
   · exact HLY.out _ HRM.out g hh e) (fun i j hi hj hij g e=>by
   obtain ⟨a1,a2⟩:=x.is_S i hi
   obtain ⟨b1,b2⟩:=x.is_S j hj
   rw [← a2] at e
   rw [← b2]
   exact X1.out.apart i j a1 b1 hij g e) (by omega)).mono ?_
 rintro e w2 ⟨rfl,t2,p2⟩
 have X2:=Lib.hid (X1.out.keep t2)
 have T2:=Lib.hid (T1.out.books t2)
 have HV2:=Lib.hid (HKP.out _ _ t2 HV1.out)
 have P2:=Lib.hid p2
 clear t2 p2 X1 T1 HV1 P1 v1 v2 v3
 obtain ⟨v1,v2,v3⟩:=HCS.out w2 HV2.out
 go_wp2_with fail
 refine (ints_p w2 B bk _ (c+1+x.S.length+1) P2.out x.O (X2.out.b _ HOM.out).1 (X2.out.b _ HOM.out).2.1 (fun g e hh=>by
   rcases hh with ((hh | hh) | ⟨y,hy,hh⟩) | hh
   · exact (X2.out.b _ HOM.out).2.2 g e hh
   · exact HRO.out g hh e
   · exact (HSA.out y hy g hh).2 e
   · exact HLY.out _ HOM.out g e hh) (by omega)).mono ?_
 rintro e w3 ⟨rfl,t3,p3⟩
 have T3:=Lib.hid (T2.out.books t3)
 have P3:Hid (BkP w3 B bk (fun k=>P k∨x.blk k) (c+x.S.length+3)):=Lib.hid (p3.mono (fun k hk=>by
   rcases hk with (((hh | hh) | ⟨y,hy,hh⟩) | hh) | hh
   · exact .inl hh
   · exact .inr (.inr ⟨_,HRM.out,hh⟩)
   · exact .inr (.inr ⟨y,HSM.out y hy,hh⟩)
   · exact .inr (.inl hh)
   · exact .inr (.inr ⟨_,HOM.out,hh⟩)) (by omega))
 clear t3 p3 T2 P2 X2 HV2 v1 v2 v3
 go_wp2_with fail
 go_end0
 exact ⟨rfl,T3.out,P3.out⟩
end Go.Proofs.YtgbikngicidbkaaGreatDoor
