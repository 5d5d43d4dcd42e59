/- The package paths: goes;conditions: those typed. -/
import Derived.Test.YtmmmjohoihpbeaaGreatQOJwNJwFJwP
import Derived.Deep.RegionLaw
import Derived.BigRegion
import Derived.Outline
namespace Go.Proofs.YtmmmjohoihpbeaaGreat
open Go.RowKit
set_option linter.unusedVariables false
set_option linter.unusedSimpArgs false
structure GoP (g:List (List Int)) (has:List Int) (fr:Nat) (ws:List Int) (by_:Nat→Int):Prop where
 len:1≤ws.length
 first:ws.getD 0 0=(fr:Int)
 nd:ws.Nodup
 rng:∀ x ∈ ws,0≤x∧x<(g.length:Int)
 prev:∀ m,1≤m→m<ws.length→∃ k:Nat,k<8∧has.getD (ws.getD m 0).toNat (-1)=(k:Int)∧∃ m',m'<m∧by_ k=ws.getD m' 0+1
 byk:∀ k:Nat,k<8→by_ k=0∨∃ m,m<ws.length∧by_ k=ws.getD m 0+1∧(k:Int) ∈ g.getD (ws.getD m 0).toNat []
theorem GoP.start {g:List (List Int)} {has:List Int} {fr:Nat} (h:fr<g.length):GoP g has fr [(fr:Int)] (fun _=>0) :=
 ⟨Nat.le_refl _,rfl,by simp,fun x hx=>by rw [List.mem_singleton.1 hx];omega,fun m h1 h2=>by simp at h2;omega,fun k _=>.inl rfl⟩
theorem GoP.at {g:List (List Int)} {has:List Int} {fr:Nat} {ws:List Int} {by_:Nat→Int} (h:GoP g has fr ws by_) (m:Nat) (hm:m<ws.length):0≤ws.getD m 0∧ws.getD m 0<(g.length:Int):=by
 rw [getD_get hm];exact h.rng _ (List.getElem_mem hm)
theorem nodup_lt:∀ (n:Nat) (l:List Nat),l.Nodup→(∀ x ∈ l,x<n)→l.length≤n
 | 0,l,_,h=>by
   cases l with
   | nil=>exact Nat.le_refl _
   | cons x l=>exact absurd (h x List.mem_cons_self) (by omega)
 | n+1,l,hn,h=>by
   by_cases hm:n ∈ l
   · have h1:=nodup_lt n (l.erase n) (hn.erase n) (fun x hx=>by
       have h2:=(hn.mem_erase_iff).1 hx
       have:=h x h2.2
       have:=h2.1
       omega)
     rw [List.length_erase_of_mem hm] at h1
     omega
   · have h1:=nodup_lt n l hn (fun x hx=>by
       have:=h x hx
       have:x≠n:=fun e=>hm (e ▸ hx)
       omega)
     omega
theorem nodup_len8 {ws:List Int} {n:Nat} (hn:ws.Nodup) (h:∀ x ∈ ws,0≤x∧x<(n:Int)):ws.length≤n:=by
 have h1:(ws.map Int.toNat).Nodup:=by
   rw [List.nodup_iff_pairwise_ne] at hn ⊢
   rw [List.pairwise_map]
   refine List.Pairwise.imp_of_mem (fun {a b} ha hb hab e=>hab ?_) hn
   have:=h a ha;have:=h b hb;omega
 have h3:=nodup_lt n _ h1 (fun x hx=>by
   obtain ⟨z,hz,rfl⟩:=List.mem_map.1 hx
   have:=h z hz
   omega)
 simpa using h3
theorem GoP.short {g:List (List Int)} {has:List Int} {fr:Nat} {ws:List Int} {by_:Nat→Int} (h:GoP g has fr ws by_):ws.length≤g.length:=nodup_len8 h.nd h.rng
theorem GoP.visit {g:List (List Int)} {has:List Int} {fr:Nat} {ws:List Int} {by_:Nat→Int} (h:GoP g has fr ws by_) {n k:Nat} (hn:n<ws.length) (h0:by_ k=0) (hk:(k:Int) ∈ g.getD (ws.getD n 0).toNat []):GoP g has fr ws (updF by_ k (ws.getD n 0+1)):=by
 refine ⟨h.len,h.first,h.nd,h.rng,fun m h1 h2 => ?_,fun x hx => ?_⟩
 · obtain ⟨q,hq,h3,m',h4,h5⟩:=h.prev m h1 h2
   have h6:=(h.at m' (by omega)).1
   have hne:q≠k:=fun e=>by rw [e,h0] at h5;omega
   exact ⟨q,hq,h3,m',h4,by rw [updF_ne _ _ hne];exact h5⟩
 · by_cases e:x=k
   · subst e;exact .inr ⟨n,hn,updF_same _ _ _,hk⟩
   · rw [updF_ne _ _ e];exact h.byk x hx
theorem getD_app {l:List Int} {z:Int} {m:Nat} (h:m<l.length):(l ++ [z]).getD m 0=l.getD m 0:=by simp [List.getD,List.getElem?_append_left h]
theorem getD_last {l:List Int} {z:Int}:(l ++ [z]).getD l.length 0=z:=by simp [List.getD]
theorem GoP.push {g:List (List Int)} {has:List Int} {fr:Nat} {ws:List Int} {by_:Nat→Int} (h:GoP g has fr ws by_) (hfr:has.getD fr (-1) = -1) {n k i:Nat} (hn:n<ws.length) (h0:by_ k=0) (hk8:k<8) (hk:(k:Int) ∈ g.getD (ws.getD n 0).toNat []) (hi:i<g.length) (hik:has.getD i (-1)=(k:Int)) :
   GoP g has fr (ws ++ [(i:Int)]) (updF by_ k (ws.getD n 0+1)):=by
 have hv:=h.visit hn h0 hk
 have hni:¬ (i:Int) ∈ ws:=fun hm=>by
   obtain ⟨m,hm,e⟩:=List.getElem_of_mem hm
   have e2:ws.getD m 0=(i:Int):=by rw [getD_get hm,e]
   by_cases h1:1≤m
   · obtain ⟨q,hq,h3,m',h4,h5⟩:=h.prev m h1 hm
     rw [e2,Int.toNat_natCast,hik] at h3
     have:q=k:=by omega
     rw [this,h0] at h5
     have:=(h.at m' (by omega)).1
     omega
   · obtain rfl:m=0:=by omega
     rw [h.first] at e2
     have:fr=i:=by omega
     rw [this,hik] at hfr
     omega
 refine ⟨by simp,by rw [getD_app h.len];exact h.first,?_,fun x hx => ?_,fun m h1 h2 => ?_,fun x hx => ?_⟩
 · rw [List.nodup_append]
   exact ⟨h.nd,by simp,fun a ha b hb e=>hni (by rw [← List.mem_singleton.1 hb,← e];exact ha)⟩
 · rcases List.mem_append.1 hx with hx | hx
   · exact h.rng x hx
   · rw [List.mem_singleton.1 hx];omega
 · by_cases hm:m<ws.length
   · obtain ⟨q,hq,h3,m',h4,h5⟩:=hv.prev m h1 hm
     exact ⟨q,hq,by rw [getD_app hm];exact h3,m',h4,by rw [getD_app (by omega)];exact h5⟩
   · obtain rfl:m=ws.length:=by simp at h2;omega
     exact ⟨k,hk8,by rw [getD_last,Int.toNat_natCast];exact hik,n,hn,by rw [getD_app hn];exact updF_same _ _ _⟩
 · rcases hv.byk x hx with h1 | ⟨m,h1,h2,h3⟩
   · exact .inl h1
   · exact .inr ⟨m,by simp;omega,by rw [getD_app h1];exact h2,by rw [getD_app h1];exact h3⟩
theorem SrI.set_by {w:World} {B sb:Nat} {gv:Value} {hb:Nat} {has:List Int} {wv:Value} {ws:List Int} {by_ hd:Nat→Int} (h:SrI w B sb gv hb has wv ws by_ hd) {k:Nat} (hk:k<8) (v:Int):SrI (w.setCell ⟨sb,3+k,none⟩ (.int .i64 v)) B sb gv hb has wv ws (updF by_ k v) hd:=by
 have h9:=heap_setCell_same w sb (3+k) _ _ (.int .i64 v) h.blk
 rw [srA_set_by _ _ _ _ _ _ k hk] at h9
 exact ⟨h9,h.row.other _ _ (fun e=>h.hs e.symm),owns_touch h.own (touch_set w sb (3+k) _) (fun k hk e=>h.ns (by rw [hk,e])),h.nh,h.lo⟩
theorem SrI.drew {w:World} {B sb:Nat} {gv:Value} {hb:Nat} {has:List Int} {wv:Value} {ws:List Int} {by_ hd:Nat→Int} (h:SrI w B sb gv hb has wv ws by_ hd):SrI w.drew B sb gv hb has wv ws by_ hd :=
 ⟨h.blk,h.row.below ((Below.refl _ _).drew),owns_below h.own ((Below.refl _ _).drew),h.nh,h.lo⟩
theorem SrI.below {w w':World} {B sb:Nat} {gv:Value} {hb:Nat} {has:List Int} {wv:Value} {ws:List Int} {by_ hd:Nat→Int} (h:SrI w B sb gv hb has wv ws by_ hd) (hw:Below w.heap.size w w'):SrI w' B sb gv hb has wv ws by_ hd :=
 ⟨below_heap hw h.blk (lt_of_heap h.blk),h.row.below hw,owns_below h.own hw,h.nh,h.lo⟩
def GoS (w0:World) (sb:Nat) (gv:Value) (hb:Nat) (g:List (List Int)) (has:List Int) (fr:Nat) (hd:Nat→Int) (W:World) (wv:Value) (ws:List Int) (by_:Nat→Int):Prop :=
 SrI W w0.heap.size sb gv hb has wv ws by_ hd∧GoP g has fr ws by_∧Below w0.heap.size w0 W
theorem GoS.below {w0:World} {sb:Nat} {gv:Value} {hb:Nat} {g:List (List Int)} {has:List Int} {fr:Nat} {hd:Nat→Int} {W W':World} {wv:Value} {ws:List Int} {by_:Nat→Int} (h:GoS w0 sb gv hb g has fr hd W wv ws by_) (hw:Below W.heap.size W W'):GoS w0 sb gv hb g has fr hd W' wv ws by_ :=
 ⟨h.1.below hw,h.2.1,h.2.2.trans (hw.mono h.2.2.size)⟩
theorem GoS.visit {w0:World} {sb:Nat} {gv:Value} {hb:Nat} {g:List (List Int)} {has:List Int} {fr:Nat} {hd:Nat→Int} {W:World} {wv:Value} {ws:List Int} {by_:Nat→Int} (h:GoS w0 sb gv hb g has fr hd W wv ws by_) {n k p:Nat} (hn:n<ws.length) (hp:ws.getD n 0=(p:Int)) (hk8:k<8) (h0:by_ k=0) (hk:(k:Int) ∈ g.getD p []):GoS w0 sb gv hb g has fr hd (W.setCell ⟨sb,3+k,none⟩ (.int .i64 ((p:Int)+1))) wv ws (updF by_ k ((p:Int)+1)) :=
 ⟨h.1.set_by hk8 _,by have:=h.2.1.visit hn h0 (by rw [hp,Int.toNat_natCast];exact hk);rwa [hp] at this,h.2.2.setCell h.1.lo.1 _⟩
def GoF (w0:World) (sb:Nat) (gv:Value) (hb:Nat) (g:List (List Int)) (has:List Int) (fr:Nat) (hd:Nat→Int) (W:World) (k:Nat):Prop :=
 ∃ ws wv by_,GoS w0 sb gv hb g has fr hd W wv ws by_∧k<8∧hd k=0∧0<by_ k
def One2 (w W:World) (v:Value) (t:TypeId):Prop:=W=w.alloc (.cells #[v] t)∨W=(w.alloc (.cells #[v] t)).drew∨W=w.drew.alloc (.cells #[v] t)
theorem One2.facts {w W:World} {v:Value} {t:TypeId} (h:One2 w W v t):Below w.heap.size w W∧W.heap[w.heap.size]?=some (.cells #[v] t (0,0))∧W.heap.size=w.heap.size+1:=by
 rcases h with rfl | rfl | rfl
 · exact ⟨(Below.refl _ _).alloc (Nat.le_refl _) _,heap_new w _,World.size_alloc _ _⟩
 · exact ⟨((Below.refl _ _).alloc (Nat.le_refl _) _).drew,heap_new w _,World.size_alloc _ _⟩
 · exact ⟨((Below.refl _ _).drew).alloc (Nat.le_refl _) _,heap_new w.drew _,World.size_alloc _ _⟩
theorem base_le {B:Nat} {w W:World} {v:Value} {t:TypeId} (hb:B≤w.heap.size) (h:One2 w W v t):B≤W.heap.size:=by have:=h.facts.2.2;omega
theorem at_one2 (w W:World) (v:Value) {t:TypeId} (h:One2 w W v t):At W (some ⟨w.heap.size,0,none⟩) [v]:=At.of_cells fun j hj=>by
 have hj0:j=0:=by simpa using hj
 subst hj0
 rw [Nat.zero_add,cell_of_block h.facts.2.1];rfl
theorem GoS.push2 {w0:World} {sb:Nat} {gv:Value} {hb:Nat} {g:List (List Int)} {has:List Int} {fr:Nat} {hd:Nat→Int} {W W2 w8:World} {v:Value} {ws:List Int} {by_:Nat→Int} (h:GoS w0 sb gv hb g has fr hd W v ws by_) {z:Int} (ho:One2 W W2 (.int .i64 z) 3) {b8:Option Addr} {c8:Nat}
   (hown:w8.ownsRow w0.heap.size 3 1 (.slice b8 (ws.length+1) c8) (ws.length+1) (icells ws ++ [.int .i64 z])) (hg:W2.grownBy w8 v.ownBlock) (hat:(Value.slice b8 (ws.length+1) c8).ownBlock=v.ownBlock∨(Value.slice b8 (ws.length+1) c8).ownBlock=some W2.heap.size) :
   w8.heap[sb]?=some (.cells (srA gv (.slice (some ⟨hb,0,none⟩) has.length has.length) v by_ hd) 220 (0,0))∧(GoP g has fr (ws ++ [z]) by_→GoS w0 sb gv hb g has fr hd (w8.setCell ⟨sb,2,none⟩ (.slice b8 (ws.length+1) c8)) (.slice b8 (ws.length+1) c8) (ws ++ [z]) by_):=by
 obtain ⟨hb2,_,hsz⟩:=ho.facts
 have h2:=h.below hb2
 have ht:Touch (fun x=>v.ownBlock=some x) W2 w8:=(Touch.of_below (S:=fun x=>v.ownBlock=some x) (Below.refl _ _)).grown hg (fun k hk=>.inl hk)
 have h3:=ht.heap h2.1.blk h2.1.ns
 have h4:RowI w8 hb has:=h2.1.row.touch ht h2.1.nh
 have hne:(Value.slice b8 (ws.length+1) c8).ownBlock≠some hb:=fun e=>by
   rcases hat with e2 | e2
   · exact h.1.nh (e2.symm.trans e)
   · have:=h2.1.row.lt;rw [e2] at e;have:=Option.some.inj e;omega
 have hne2:(Value.slice b8 (ws.length+1) c8).ownBlock≠some sb:=fun e=>by
   rcases hat with e2 | e2
   · exact h.1.ns (e2.symm.trans e)
   · have:=lt_of_heap h2.1.blk;rw [e2] at e;have:=Option.some.inj e;omega
 refine ⟨h3,fun hp=>⟨⟨?_,h4.other _ _ (fun e=>h2.1.hs e.symm),?_,hne,h.1.lo⟩,hp,?_⟩⟩
 · rw [heap_setCell_same _ sb 2 _ _ _ h3,srA_set_w]
 · have:=owns_touch hown (touch_set w8 sb 2 (.slice b8 (ws.length+1) c8)) (fun k hk e=>hne2 (by rw [hk,e]))
   rw [icells_append,List.length_append]
   exact this
 · exact ((h2.2.2.grown hg h2.2.2.size (fun k hk=>owns_base h2.1.own k hk)).setCell h.1.lo.1 _)
set_option maxRecDepth 100000 in
set_option maxHeartbeats 8000000 in
theorem goes_ok (w0:World) (a:Option Addr) (n c:Nat) (g:List (List Int)) (items:Nat) (has:List Int) (fr sb hb:Nat) (wv:Value) (hd:Nat→Int) (w:World) (h:IsII w0 a n c g) (hg:GOk g items) (hm:MtL g has) (hno:has.getD fr (-1) = -1) (hhd:HdI has has.length hd)
   (hs:GoS w0 sb (.slice a n c) hb g has fr hd w wv [(fr:Int)] (fun _=>0)) :
   Calls Tryz.prog 193 #[.pointer (some ⟨sb,0,none⟩),.bool false] w fun e w' => ∃ ws wv by_,GoS w0 sb (.slice a n c) hb g has fr hd w' wv ws by_ ∧
     (e=.returned (.tuple #[.int .i64 0,.bool false])∨∃ k:Nat,e=.returned (.tuple #[.int .i64 k,.bool true])∧k<8∧hd k=0∧0<by_ k):=by
 obtain rfl:=h.1
 have h8:=hg.hn
 have HI:=Lib.hid h
 have HG:=Lib.hid hg
 have HM:=Lib.hid hm
 have HNO:=Lib.hid hno
 have HHD:=Lib.hid hhd
 have HS0:=Lib.hid hs
 clear h hg hm hno hhd hs
 go_enter Tryz.func193,Tryz.ntmps193
 go_wp2_with fail
 refine wp_scope_jumps 0 (fun a' w' => ∃ (k:Nat) (u0 u1 u2 u3 u5 u6 u7 u8 u9 u10 u11 u12 u13 u14 u15 u16 u17 u18 u19 u20 u21 u22 u23 u24 u25 u26 u27 u28 u29 u30 u31 u32 u33 u34 u35 u36 u37 u38 u39 u40 u41 u42 u43 u44 u45 u46 u47 u48 u49 u50 u51 u52 u53 u54 u55 u56 u57 u58 u59 u60 u61 u62 u63 u64 u65 u66 u67 u68 u69 u70 u71 u72 u73 u74 u75 u76 u77 u78 u79 u80 u81 u82 u83:Value),a'={ tmps:=#[u0,u1,u2,u3,.int .i64 (k:Int),u5,u6,u7,u8,u9,u10,u11,u12,u13,u14,u15,u16,u17,u18,u19,u20,u21,u22,u23,u24,u25,u26,u27,u28,u29,u30,u31,u32,u33,u34,u35,u36,u37,u38,u39,u40,u41,u42,u43,u44,u45,u46,u47,u48,u49,u50,u51,u52,u53,u54,u55,u56,u57,u58,u59,u60,u61,u62,u63,u64,u65,u66,u67,u68,u69,u70,u71,u72,u73,u74,u75,u76,u77,u78,u79,u80,u81,u82,u83],defers:=[] }∧Hid (GoF w0 sb (.slice a g.length c) hb g has fr hd w' k)) (fun _ _=>0) rfl ?_ ?pass
 case pass =>
   rintro a1 W ⟨k,u0,u1,u2,u3,u5,u6,u7,u8,u9,u10,u11,u12,u13,u14,u15,u16,u17,u18,u19,u20,u21,u22,u23,u24,u25,u26,u27,u28,u29,u30,u31,u32,u33,u34,u35,u36,u37,u38,u39,u40,u41,u42,u43,u44,u45,u46,u47,u48,u49,u50,u51,u52,u53,u54,u55,u56,u57,u58,u59,u60,u61,u62,u63,u64,u65,u66,u67,u68,u69,u70,u71,u72,u73,u74,u75,u76,u77,u78,u79,u80,u81,u82,u83,rfl,HF⟩
   go_wp2_with fail
   simp only [Exit.jump]
   go_ret2
   obtain ⟨ws,wv,by_,h1,h2,h3,h4⟩:=HF.out
   exact ⟨ws,wv,by_,h1,.inr ⟨k,rfl,h2,h3,h4⟩⟩
 go_wp2_with fail
 go_loopw [6] (fun i wr => ∃ j:Nat,i=.int .i64 (j:Int)∧Hid (∃ ws wv by_,j≤ws.length∧GoS w0 sb (.slice a g.length c) hb g has fr hd wr wv ws by_)) (fun i _=>9 - (intOf i).toNat)
 case atStart=>exact ⟨0,rfl,Lib.hid ⟨_,_,_,Nat.zero_le _,HS0.out⟩⟩
 case round =>
   obtain ⟨j,rfl,HS⟩:=hrel
   obtain ⟨ws,wv,by_,hjl,hs⟩:=HS.out
   clear HS
   have hws:=hs.2.1.short
   obtain ⟨bo,co,hwv⟩:=owns_shape hs.1.own
   subst hwv
   have c2:wr.cell? ⟨sb,2,none⟩=some (.slice bo ws.length co):=by rw [cell_of_block hs.1.blk];rfl
   by_cases hlt:j<ws.length
   · have hwj:=hs.2.1.at j hlt
     have HIW:=Lib.hid (isI_of_owns hs.1.own rfl)
     obtain ⟨wb,wo,rfl,hwb,cw⟩:=HIW.out.at j hlt
     have egd:ws.getD j 0=ws[j]:=getD_get hlt
     rw [← egd] at cw
     obtain ⟨p,hp⟩:=Int.eq_ofNat_of_zero_le hwj.1
     have hpg:p<g.length:=by omega
     rw [hp] at cw
     obtain ⟨b2,off2,x,y,t,rfl,hb2,hc2,hI2⟩:=HI.out.at p hpg
     have cg:wr.cell? ⟨b2,off2+p,none⟩=some (.slice x y t):=(hs.2.2.cell (p:=⟨b2,off2+p,none⟩) hb2).trans hc2
     have c0:wr.cell? ⟨sb,0,none⟩=some (.slice (some ⟨b2,off2,none⟩) g.length c):=by rw [cell_of_block hs.1.blk];rfl
     have HR:Hid (g.getD p []=g[p]):=Lib.hid (getD_get hpg)
     have HRI:Hid (RisL g[p] items):=Lib.hid (HG.out.hl _ (List.getElem_mem hpg))
     have HI2:=Lib.hid hI2
     generalize g[p]=row at HR HRI HI2
     have hyl:=HI2.out.1
     subst hyl
     have hrl:=Nat.le_trans HRI.out.len HG.out.hi
     have HS:=Lib.hid hs
     have HP:=Lib.hid hp
     clear hs hI2 hc2 egd hp
     go_wp2_with fail
     go_quiet (fail)
     go_wp2_with fail
     go_loopw [32] (fun i wq => ∃ q:Nat,q≤row.length∧i=.int .i64 (q:Int)∧Hid (∃ ws wv by_,j<ws.length∧ws.getD j 0=(p:Int)∧GoS w0 sb (.slice (some ⟨b2,off2,none⟩) g.length c) hb g has fr hd wq wv ws by_)) (fun i _=>row.length - (intOf i).toNat)
     case atStart=>exact ⟨0,Nat.zero_le _,rfl,Lib.hid ⟨_,_,_,hlt,HP.out,HS.out.below (below_drewN (Below.refl _ _) _)⟩⟩
     case round =>
       clear HS HP cg c0 c2 cw HIW hjl hws hlt hwj hwb
       obtain ⟨q,hq,rfl,HS⟩:=hrel
       obtain ⟨xs,wv,bz,hjl,hp,hs⟩:=HS.out
       clear HS
       by_cases hlq:q<row.length
       · obtain ⟨b3,off3,rfl,hb3,hc3⟩:=HI2.out.at q hlq
         have cq:wr.cell? ⟨b3,off3+q,none⟩=some (.int .i64 row[q]):=(hs.2.2.cell (p:=⟨b3,off3+q,none⟩) hb3).trans hc3
         have hzr:=HRI.out.at q hlq
         have HMEM:Hid (row[q] ∈ g.getD p []):=Lib.hid (by rw [HR.out];exact List.getElem_mem hlq)
         have hi8:=HG.out.hi
         obtain ⟨k,hk⟩:=Int.eq_ofNat_of_zero_le hzr.1
         have hk8:k<8:=by omega
         rw [hk] at cq HMEM
         have cb:wr.cell? ⟨sb,3+k,none⟩=some (.int .i64 (bz k)):=by rw [cell_of_block hs.1.blk];exact srA_by _ _ _ _ _ k hk8
         have hbk:bz k=0∨0<bz k:=by
           rcases hs.2.1.byk k hk8 with h | ⟨m,h1,h2,_⟩
           · exact .inl h
           · have:=(hs.2.1.at m h1).1;right;omega
         by_cases hb0:bz k=0
         · have hwx:(0:Int)≤(p:Int):=Int.natCast_nonneg _
           have cb0:wr.cell? ⟨sb,3+k,none⟩=some (.int .i64 0):=by rw [← hb0];exact cb
           have cf0:wr.frozen? ⟨sb,3+k,none⟩=false:=blk_free hs.1.blk
           obtain ⟨bo,co,hwv⟩:=owns_shape hs.1.own
           subst hwv
           have HIW:=Lib.hid (isI_of_owns hs.1.own rfl)
           obtain ⟨wb,wo,rfl,hwb,cw⟩:=HIW.out.at j hjl
           have egd:xs.getD j 0=xs[j]:=getD_get hjl
           rw [← egd,hp] at cw
           have c2:wr.cell? ⟨sb,2,none⟩=some (.slice (some ⟨wb,wo,none⟩) xs.length co):=by rw [cell_of_block hs.1.blk];rfl
           have d1:decide (0<(0:Int))=false:=rfl
           have HV:=Lib.hid (hs.visit hjl hp hk8 hb0 HMEM.out)
           have HX:=Lib.hid hs
           rw [hb0] at cb
           have HB0:=Lib.hid hb0
           have HP:=Lib.hid hp
           have HJ:=Lib.hid hjl
           clear hs hp hzr hk hc3 hbk egd hb0 HIW
           go_wp2_with fail
           go_region
           have hv:=HV.out.below ((Below.refl _ _).drew)
           generalize (wr.setCell ⟨sb,3+k,none⟩ (.int .i64 ((p:Int)+1))).drew=W1 at hv ⊢
           clear cb cb0 cf0 cw c2 HV cq hwb
           have c11:W1.cell? ⟨sb,11+k,none⟩=some (.int .i64 (hd k)):=by rw [cell_of_block hv.1.blk];exact srA_hd _ _ _ _ _ k hk8
           rcases HHD.out k hk8 with ⟨hd0,_⟩ | ⟨i,_,hi,hik,hd1⟩
           · have HF:Hid (GoF w0 sb (.slice (some ⟨b2,off2,none⟩) g.length c) hb g has fr hd W1 k):=Lib.hid ⟨_,_,_,hv,hk8,hd0,by rw [updF_same];omega⟩
             rw [hd0] at c11
             clear hv hd0
             go_wp2_with fail
             go_step3
             exact ⟨rfl,k,_,_,_,_,_,_,_,_,_,_,_,_,_,_,_,_,_,_,_,_,_,_,_,_,_,_,_,_,_,_,_,_,_,_,_,_,_,_,_,_,_,_,_,_,_,_,_,_,_,_,_,_,_,_,_,_,_,_,_,_,_,_,_,_,_,_,_,_,_,_,_,_,_,_,_,_,_,_,_,_,_,_,_,rfl,HF⟩
           · have HV1:=Lib.hid hv
             have c2:W1.cell? ⟨sb,2,none⟩=some (.slice (some ⟨wb,wo,none⟩) xs.length co):=by rw [cell_of_block hv.1.blk];rfl
             rw [hd1] at c11
             have hig:i<g.length:=by have:=HM.out.len;omega
             have hxl:=HX.out.2.1.short
             have HIK:=Lib.hid hik
             have HW:=Lib.hid (hv.1.lo.1)
             have HSZ:=Lib.hid (hv.2.2.size)
             have HP2:=Lib.hid (HX.out.2.1.push HNO.out HJ.out HB0.out hk8 (by rw [HP.out,Int.toNat_natCast];exact HMEM.out) hig hik)
             have HM1:Hid (xs.length+1≤maxLen):=Lib.hid (by unfold maxLen;omega)
             have HM2:Hid ((xs.length+1)*8≤140737488355328):=Lib.hid (by omega)
             have e1:IntKind.i64.wrap (i:Int)=(i:Int):=IntWalk.i64_in _ (by omega)
             clear hv hd1 hi hik
             go_wp2_with fail
             have hk8i:(k:Int)<8:=by omega
             have hk0i:(0:Int)≤(k:Int):=by omega
             have k0:W1.drew.cell? ⟨sb,2,none⟩=some (.slice (some ⟨wb,wo,none⟩) xs.length co):=c2
             have k1:(W1.alloc (.cells #[.int .i64 (i:Int)] 3)).drew.cell? ⟨sb,2,none⟩=some (.slice (some ⟨wb,wo,none⟩) xs.length co):=cell_alloc c2 _
             have k2:(W1.drew.alloc (.cells #[.int .i64 (i:Int)] 3)).cell? ⟨sb,2,none⟩=some (.slice (some ⟨wb,wo,none⟩) xs.length co):=cell_alloc k0 _
             have k3:(W1.alloc (.cells #[.int .i64 (i:Int)] 3)).cell? ⟨sb,2,none⟩=some (.slice (some ⟨wb,wo,none⟩) xs.length co):=cell_alloc c2 _
             have j0:W1.drew.cell? ⟨sb,11+k,none⟩=some (.int .i64 ((i:Int)+1)):=c11
             go_region_law (first
               | (refine step_append_any rowInt rfl (.tmp 67) (.tmp 75) (by rfl) w0.heap.size (.slice (some ⟨wb,wo,none⟩) xs.length co) xs.length (icells xs) (by simp [Act.eval,Act.put]) (owns_touch HV1.out.1.own (by repeat (first | exact Touch.refl _ _ | apply Touch.drew | apply Touch.alloc)) (fun _ _=>id)) (some ⟨W1.heap.size,0,none⟩) 1 1 [.int .i64 (i:Int)] (by simp [Act.eval,Act.put]) rfl (at_one2 (t:=3) W1 _ _ (by first | exact .inl rfl | exact .inr (.inl rfl) | exact .inr (.inr rfl))) (one_cell _ rfl) HM1.out HM2.out (base_le HSZ.out (by first | exact .inl rfl | exact .inr (.inl rfl) | exact .inr (.inr rfl))) ?_;intro b8 c8 w8 hown8 hg8 hat8
                  have HN:=Lib.hid (HV1.out.push2 (z:=(i:Int)) (by first | exact .inl rfl | exact .inr (.inl rfl) | exact .inr (.inr rfl)) hown8 hg8 hat8)
                  have q1:w8.cell? ⟨sb,2,none⟩=some (.slice (some ⟨wb,wo,none⟩) xs.length co):=by rw [cell_of_block HN.out.1];rfl
                  have qf:w8.frozen? ⟨sb,2,none⟩=false:=blk_free HN.out.1
                  clear hown8 hg8 hat8)
               | fail)
             all_goals
               have HS2:Hid (∃ ws wv by_,j<ws.length∧ws.getD j 0=(p:Int)∧GoS w0 sb (.slice (some ⟨b2,off2,none⟩) g.length c) hb g has fr hd (w8.setCell ⟨sb,2,none⟩ (.slice b8 (xs.length+1) c8)) wv ws by_):=Lib.hid ⟨_,_,_,by have:=HJ.out;simp;omega,by rw [getD_app HJ.out];exact HP.out,HN.out.2 (by have:=HP2.out;rwa [HP.out] at this)⟩
               clear q1 qf k0 k1 k2 k3 j0 c2 c11 e1 hk8i hk0i
               go_wp2_with fail
               go_roundw
               case rel=>exact ⟨q+1,by omega,by go_num,HS2⟩
               case measure=>simp [intOf];omega
         · have d1:decide (0<bz k)=true:=decide_eq_true (by omega)
           have HS2:Hid (∃ ws wv by_,j<ws.length∧ws.getD j 0=(p:Int)∧GoS w0 sb (.slice (some ⟨b2,off2,none⟩) g.length c) hb g has fr hd wr wv ws by_):=Lib.hid ⟨_,_,_,hjl,hp,hs⟩
           clear hs hp hzr hk hc3 hbk
           go_wp2_with fail
           go_roundw
           case rel=>exact ⟨q+1,by omega,by go_num,HS2⟩
           case measure=>simp [intOf];omega
       · have hqq:q=row.length:=by omega
         subst hqq
         have HS2:Hid (∃ ws wv by_,j+1≤ws.length∧GoS w0 sb (.slice (some ⟨b2,off2,none⟩) g.length c) hb g has fr hd wr wv ws by_):=Lib.hid ⟨_,_,_,hjl,hs⟩
         have hj9:j<8:=by have:=hs.2.1.short;omega
         clear hs hp hjl
         go_wp2_with fail
         go_roundw
         case rel=>exact ⟨j+1,by go_num,HS2⟩
         case measure=>simp [intOf];omega
   · have hjj:j=ws.length:=by omega
     subst hjj
     have HS2:Hid (∃ ws wv by_,GoS w0 sb (.slice a g.length c) hb g has fr hd wr wv ws by_):=Lib.hid ⟨_,_,_,hs⟩
     clear hs
     go_wp2_with fail
     simp only [Exit.jump]
     go_ret2
     obtain ⟨ws,wv,by_,h⟩:=HS2.out
     exact ⟨ws,wv,by_,h,.inl rfl⟩
structure Aug (g:List (List Int)) (has ws:List Int) (by_:Nat→Int) (k:Nat) (h2:List Int):Prop where
 mt:MtL g h2
 free:∀ i,i<g.length→h2.getD i (-1)≠(k:Int)
 k8:k<8
 r:∃ r,r<ws.length∧by_ k=ws.getD r 0+1∧(k:Int) ∈ g.getD (ws.getD r 0).toNat []∧∀ m,m≤r→h2.getD (ws.getD m 0).toNat (-1)=has.getD (ws.getD m 0).toNat (-1)
theorem Aug.start {g:List (List Int)} {has ws:List Int} {by_ hd:Nat→Int} {fr k:Nat} (hm:MtL g has) (hg:GoP g has fr ws by_) (hhd:HdI has has.length hd) (hk:k<8) (h0:hd k=0) (hb:0<by_ k):Aug g has ws by_ k has:=by
 refine ⟨hm,fun i hi e => ?_,hk,?_⟩
 · rcases hhd k hk with ⟨_,h2⟩ | ⟨x,_,_,_,h4⟩
   · have hil:i<has.length:=by have:=hm.len;omega
     refine h2 ?_
     rw [List.take_length,← e,getD_get hil]
     exact List.getElem_mem hil
   · omega
 · rcases hg.byk k hk with h | ⟨m,h1,h2,h3⟩
   · omega
   · exact ⟨m,h1,h2,h3,fun _ _=>rfl⟩
theorem getD_set {l:List Int} {i j:Nat} {v d:Int} (hi:i<l.length):(l.set i v).getD j d=if i=j then v else l.getD j d:=by
 simp only [List.getD,List.getElem?_set]
 by_cases e:i=j
 · subst e;simp [hi]
 · simp [e]
theorem nodup_getD {ws:List Int} (hn:ws.Nodup) {a b:Nat} (ha:a<ws.length) (hb:b<ws.length) (e:ws.getD a 0=ws.getD b 0):a=b:=by
 rw [getD_get ha,getD_get hb] at e
 exact (List.getElem_inj hn).1 e
theorem Aug.step {g:List (List Int)} {has ws:List Int} {by_:Nat→Int} {fr k i:Nat} {h2:List Int} (h:Aug g has ws by_ k h2) (hg:GoP g has fr ws by_) (hno:has.getD fr (-1) = -1) (hi:by_ k=(i:Int)+1) :
   i<g.length∧MtL g (h2.set i (k:Int))∧((h2.getD i (-1) = -1)∨∃ k':Nat,h2.getD i (-1)=(k':Int)∧Aug g has ws by_ k' (h2.set i (k:Int))∧ws.idxOf (by_ k' - 1)<ws.idxOf (by_ k - 1)):=by
 obtain ⟨r,h1,h3,h4,h5⟩:=h.r
 have hwr:ws.getD r 0=(i:Int):=by omega
 have hig:i<g.length:=by have:=(hg.at r h1).2;omega
 have hil:i<h2.length:=by have:=h.mt.len;omega
 have hold:=h5 r (Nat.le_refl _)
 rw [hwr,Int.toNat_natCast] at hold h4
 have hmt:MtL g (h2.set i (k:Int)):=by
   refine ⟨by simp;exact h.mt.len,fun x hx => ?_,fun x y hx hy e hne => ?_⟩
   · rw [getD_set hil]
     by_cases e:i=x
     · rw [if_pos e];right;rw [← e];exact h4
     · rw [if_neg e];exact h.mt.ok x hx
   · rw [getD_set hil,getD_set hil] at e
     rw [getD_set hil] at hne
     by_cases e1:i=x
     · by_cases e2:i=y
       · omega
       · rw [if_pos e1,if_neg e2] at e
         exact absurd e.symm (h.free y hy)
     · rw [if_neg e1] at hne e
       by_cases e2:i=y
       · rw [if_pos e2] at e
         exact absurd e (h.free x hx)
       · rw [if_neg e2] at e
         exact h.mt.inj x y hx hy e hne
 refine ⟨hig,hmt,?_⟩
 by_cases hr0:r=0
 · subst hr0
   left
   rw [hg.first] at hwr
   have:fr=i:=by omega
   rw [hold,← this];exact hno
 · right
   obtain ⟨k',hk',h6,m',h7,h8⟩:=hg.prev r (by omega) h1
   rw [hwr,Int.toNat_natCast,← hold] at h6
   have hm':m'<ws.length:=by omega
   have hwm:=hg.at m' hm'
   refine ⟨k',h6,⟨hmt,fun x hx e => ?_,hk',m',hm',h8,?_,fun m hm => ?_⟩,?_⟩
   · rw [getD_set hil] at e
     by_cases e1:i=x
     · rw [if_pos e1] at e
       have:=h.free i hig
       rw [h6,← e] at this
       exact this rfl
     · rw [if_neg e1] at e
       exact e1 (h.mt.inj i x hig hx (by rw [h6,e]) (by rw [h6];omega))
   · rcases hg.byk k' hk' with h9 | ⟨m2,h9,h10,h11⟩
     · omega
     · have:ws.getD m2 0=ws.getD m' 0:=by omega
       rw [← this];exact h11
   · rw [getD_set hil]
     have hne:i≠(ws.getD m 0).toNat:=fun e=>by
       have:=hg.at m (by omega)
       have:=nodup_getD hg.nd (show m<ws.length by omega) h1 (by rw [hwr];omega)
       omega
     rw [if_neg hne]
     exact h5 m (by omega)
   · rw [h8,h3,show ws.getD m' 0+1 - 1=ws.getD m' 0 by omega,show ws.getD r 0+1 - 1=ws.getD r 0 by omega,getD_get hm',getD_get h1,hg.nd.idxOf_getElem m' hm',hg.nd.idxOf_getElem r h1]
     exact h7
set_option maxRecDepth 100000 in
set_option maxHeartbeats 8000000 in
theorem more_any (a ha:Option Addr) (n c hn hc:Nat) (g:List (List Int)) (items:Nat) (has:List Int) (fr:Nat) (w:World) (h:IsII w a n c g) (hg:GOk g items) (hh:IsI w ha hn hc has) (hm:MtL g has) (hf:fr<g.length) :
   Calls Tryz.prog 183 #[.slice a n c,.int .i64 items,.slice ha hn hc,.int .i64 fr] w fun e w' => Below w.heap.size w w' ∧
     ((∃ v er,e=.returned (.tuple #[v,.bool false,.int .i64 er]))∨∃ a' c' l,e=.returned (.tuple #[.slice a' l.length c',.bool true,.int .i64 0])∧IsI w' a' l.length c' l∧MtL g l):=by
 obtain rfl:=h.1
 obtain rfl:=hh.1
 have h8:=hg.hn
 have HI:=Lib.hid h
 have HG:=Lib.hid hg
 have HH:=Lib.hid hh
 have HM:=Lib.hid hm
 clear h hg hh hm
 by_cases hno:has.getD fr (-1) = -1
 case neg =>
   go_enter Tryz.func183,Tryz.ntmps183
   go_wp2_with fail
   refine (begin_no a ha g.length c has.length hc g items has fr w HI.out HG.out HH.out HM.out hf hno).mono ?_;rintro e w1 ⟨rfl,hb1⟩
   have HB1:=Lib.hid hb1
   clear hb1 hno
   go_wp2_with fail
   go_ret3
   exact ⟨HB1.out,.inl ⟨_,_,rfl⟩⟩
 case pos =>
   go_enter Tryz.func183,Tryz.ntmps183
   go_wp2_with fail
   refine (begin_ok a ha g.length c has.length hc g items has fr w HI.out HG.out HH.out HM.out hf hno).mono ?_;rintro e w1 ⟨sb,hb,wv,hd,rfl,hb1,hs1,hhd⟩
   have HNO:=Lib.hid hno
   have HHD:=Lib.hid hhd
   have HS1:Hid (GoS w sb (.slice a g.length c) hb g has fr hd w1 wv [(fr:Int)] (fun _=>0)):=Lib.hid ⟨hs1,GoP.start hf,hb1⟩
   clear hno hhd hs1 hb1
   go_wp2_with fail
   refine (goes_ok w a g.length c g items has fr sb hb wv hd w1 HI.out HG.out HM.out HNO.out HHD.out HS1.out).mono ?_
   rintro e w2 ⟨ws,wv2,by_,hs2,rfl | ⟨k,rfl,hk8,hk0,hkb⟩⟩
   · have HB2:=Lib.hid hs2.2.2
     clear hs2
     go_wp2_with fail
     go_ret3
     exact ⟨HB2.out,.inl ⟨_,_,rfl⟩⟩
   · have HA:=Lib.hid (Aug.start HM.out hs2.2.1 HHD.out hk8 hk0 hkb)
     have HP:=Lib.hid hs2.2.1
     have HN:=Lib.hid HM.out.len
     have HS2:=Lib.hid hs2
     clear hs2 hk0 hkb
     go_wp2_with fail
     go_loopw [13] (fun v wr => ∃ z:Int,v=.int .i64 z∧Hid (∃ h2,((z = -1∧MtL g h2)∨∃ k:Nat,z=(k:Int)∧Aug g has ws by_ k h2)∧wr.heap[sb]?=some (.cells (srA (.slice a g.length c) (.slice (some ⟨hb,0,none⟩) has.length has.length) wv2 by_ hd) 220 (0,0))∧RowI wr hb h2∧Below w.heap.size w wr)) (fun v _=>if intOf v = -1 then 0 else ws.idxOf (by_ (intOf v).toNat - 1)+1)
     case atStart=>exact ⟨_,rfl,Lib.hid ⟨has,.inr ⟨k,rfl,HA.out⟩,HS2.out.1.blk,HS2.out.1.row,HS2.out.2.2⟩⟩
     case round =>
       obtain ⟨z,rfl,HR⟩:=hrel
       obtain ⟨h2,hz,hblk,hrow,hbel⟩:=HR.out
       clear HR
       rcases hz with ⟨rfl,hmt⟩ | ⟨k,rfl,hau⟩
       · have hl2:=hmt.len
         have c1:wr.cell? ⟨sb,1,none⟩=some (.slice (some ⟨hb,0,none⟩) has.length has.length):=by rw [cell_of_block hblk];rfl
         have HB2:=Lib.hid hbel
         have HMT:=Lib.hid hmt
         have HRW:=Lib.hid hrow
         have HL2:=Lib.hid hl2
         clear hbel hmt hrow hl2 hblk
         go_wp2_with fail
         go_ret3
         refine ⟨HB2.out,.inr ⟨some ⟨hb,0,none⟩,has.length,h2,by rw [HL2.out,← HN.out];rfl,HRW.out.isI _ ?_ ?_,HMT.out⟩⟩
         · rw [HL2.out,← HN.out];exact Nat.le_refl _
         · have:=HH.out.2.1;have:=HH.out.2.2.1;omega
       · obtain ⟨r,hr1,hr2,_⟩:=hau.r
         have hr3:=(HP.out.at r hr1).1
         obtain ⟨i,hi⟩:=Int.eq_ofNat_of_zero_le hr3
         have hbi:by_ k=(i:Int)+1:=by omega
         obtain ⟨hig,hmt,hnx⟩:=hau.step HP.out HNO.out hbi
         have hk8':=hau.k8
         have hl2:=hau.mt.len
         have hil2:i<h2.length:=by omega
         have hil:i<has.length:=by have:=HN.out;omega
         have hh8:has.length≤8:=by have:=HN.out;omega
         have c1:wr.cell? ⟨sb,1,none⟩=some (.slice (some ⟨hb,0,none⟩) has.length has.length):=by rw [cell_of_block hblk];rfl
         have c3:wr.cell? ⟨sb,3+k,none⟩=some (.int .i64 ((i:Int)+1)):=by rw [cell_of_block hblk,srA_by _ _ _ _ _ k hk8',hbi]
         have ci:wr.cell? ⟨hb,i,none⟩=some (.int .i64 h2[i]):=hrow.cell i hil2
         have cf:wr.frozen? ⟨hb,i,none⟩=false:=hrow.free i
         have egd:h2.getD i (-1)=h2[i]:=getD_get hil2
         have hne:hb≠sb:=HS2.out.1.hs
         have HNX:Hid (∃ h3,((h2[i] = -1∧MtL g h3)∨∃ k:Nat,h2[i]=(k:Int)∧Aug g has ws by_ k h3)∧(wr.setCell ⟨hb,i,none⟩ (.int .i64 (k:Int))).drew.heap[sb]?=some (.cells (srA (.slice a g.length c) (.slice (some ⟨hb,0,none⟩) has.length has.length) wv2 by_ hd) 220 (0,0))∧RowI (wr.setCell ⟨hb,i,none⟩ (.int .i64 (k:Int))).drew hb h3∧Below w.heap.size w (wr.setCell ⟨hb,i,none⟩ (.int .i64 (k:Int))).drew):=Lib.hid (by
           refine ⟨_,?_,(Below.heap_setCell _ _ _ _ (fun e=>hne e.symm)).trans hblk,(hrow.set i hil2 _).below ((Below.refl _ _).drew),(hbel.setCell HS2.out.1.lo.2 _).drew⟩
           rcases hnx with h | ⟨k',h3,h4,h5⟩
           · exact .inl ⟨by rw [← egd];exact h,hmt⟩
           · exact .inr ⟨k',by rw [← egd];exact h3,h4⟩)
         have HMS:Hid ((if h2[i] = -1 then 0 else ws.idxOf (by_ (h2[i]).toNat - 1)+1)<ws.idxOf (by_ k - 1)+1):=Lib.hid (by
           rcases hnx with h | ⟨k',h3,h4,h5⟩
           · rw [egd] at h;rw [if_pos h];omega
           · rw [egd] at h3;rw [h3,if_neg (by omega),Int.toNat_natCast];omega)
         have d1:((k:Int) != -1)=true:=by rw [bne_iff_ne];omega
         have hkm:¬ ((k:Int) = -1):=by omega
         have hk8i:(k:Int)<8:=by omega
         have hk0i:(0:Int)≤(k:Int):=by omega
         generalize h2[i]=z at ci HNX HMS
         have HAU:=Lib.hid hau
         clear hau hnx hmt hr1 hr2 hr3 hi hbi hbel hrow hblk egd hl2 hil2 hne
         go_wp2_with fail
         go_region
         go_wp2_with fail
         go_roundw
         case rel=>exact ⟨z,rfl,HNX⟩
         case measure =>
           have:=HMS.out
           show (if (z:Int) = -1 then 0 else ws.idxOf (by_ z.toNat - 1)+1)<(if ((k:Int)) = -1 then 0 else ws.idxOf (by_ (k:Int).toNat - 1)+1)
           rw [if_neg hkm,Int.toNat_natCast]
           exact this
end Go.Proofs.YtmmmjohoihpbeaaGreat
