/- The document's stores (salesroomref20): Set;conditions: those typed. -/
import Derived.Test.YtgbikngicidbkaaGreatDoorQR20iR20jR20kR20l
import Derived.Test.YtgbikngicidbkaaGreatDoorQStMktKBpMStPlaySStMktPStActStLawM
namespace Go.Proofs.YtgbikngicidbkaaGreatDoor
open Go.RowKit
set_option linter.unusedVariables false
set_option linter.unusedSimpArgs false
set_option maxRecDepth 100000
set_option maxHeartbeats 4000000 in
theorem rset_bad (ts B rd rl rc:Nat) (x:StA) (c:StC) (R:Dsk) (who:Int) (sq:Nat) (st:Bool) (a:Option Addr) (n cap:Nat) (w:World) (h:IsRS w ts B rd rl rc x c R) (hw:who<0∨(c.s.length:Int)≤who) :
   Calls Tryz.prog 27 #[.pointer (some ⟨ts,0,none⟩),.int .i64 who,.agg #[.int .u32 sq,.bool st,.slice a n cap]] w fun e w' => e=.returned (.int .i64 1)∧Below w.heap.size w w':=by
 have hb0:Below w.heap.size w (w.alloc (.cells #[.int .u32 sq,.bool st,.slice a n cap] 60)):=(Below.refl _ _).alloc (Nat.le_refl _) _
 have HS:=Lib.hid (h.below hb0)
 have HB:=Lib.hid hb0
 clear h hb0
 go_enter Tryz.func27,Tryz.ntmps27
 go_wp2_with fail
 generalize w.alloc (.cells #[.int .u32 sq,.bool st,.slice a n cap] 60)=w0 at HS HB ⊢
 refine (rrec_bad ts B rd rl rc x c R who w0 HS.out hw).mono ?_;rintro e w1 ⟨rfl,hb1⟩
 have hb2:=HB.out.trans (hb1.mono HB.out.size)
 have hbx:∀ o,Below w.heap.size w (w1.alloc o):=fun o=>hb2.alloc hb2.size o
 have HBX:=Lib.hid hbx
 clear hb1 hb2 hbx
 go_wp2_with fail
 go_ret
 exact ⟨rfl,HBX.out _⟩
set_option maxHeartbeats 16000000 in
theorem rset_ok (ts B rd rl rc:Nat) (x:StA) (c:StC) (R:Dsk) (who:Nat) (sq:Nat) (st:Bool) (a:Option Addr) (n cap:Nat) (l:List Int) (k:Int) (w:World) (h:IsRS w ts B rd rl rc x c R) (hI:IsI w a n cap l) (hsq:sq<4294967296) (hw:who<c.s.length) (hs:c.s.length≤8) (hr:c.r.length≤1000000) (hk:R.fine k) (hk2:k≤1000000000000000) (hg32:(R.get ((12*(2+who):Nat):Int)).1<4294967296) :
   Calls Tryz.prog 27 #[.pointer (some ⟨ts,0,none⟩),.int .i64 who,.agg #[.int .u32 sq,.bool st,.slice a n cap]] w fun e w' => e=.returned (.int .i64 (setD c.s.length c.r.length R who ⟨sq,st,l⟩).1)∧Touch (fun k=>k=rd∨k=rl) w w'∧IsRef w' B rd rl rc (setD c.s.length c.r.length R who ⟨sq,st,l⟩).2:=by
 have hb0:Below w.heap.size w (w.alloc (.cells #[.int .u32 sq,.bool st,.slice a n cap] 60)):=(Below.refl _ _).alloc (Nat.le_refl _) _
 have HV0:=Lib.hid (heap_new w (.cells #[.int .u32 sq,.bool st,.slice a n cap] 60 (0,0)))
 have HS0:Hid (TnS ts B rd rl rc x c R a n cap l w (w.alloc (.cells #[.int .u32 sq,.bool st,.slice a n cap] 60))):=Lib.hid ⟨h.below hb0,hb0,hI.below hb0⟩
 obtain ⟨X,hX⟩:∃ X,X=rcD c.r.length R who:=⟨_,rfl⟩
 obtain ⟨g,hg⟩:∃ g,g=(R.get ((12*(2+who):Nat):Int)).1:=⟨_,rfl⟩
 obtain ⟨P0,hP0⟩:∃ P0,P0=12*(2+who):=⟨_,rfl⟩
 obtain ⟨Z,hZ⟩:∃ Z,Z=R.put ((P0:Nat):Int) (succ32 g) (StR.enc ⟨sq,st,l⟩):=⟨_,rfl⟩
 have HSD:Hid (setD c.s.length c.r.length R who ⟨sq,st,l⟩=if fitsC c.r.length ⟨sq,st,l⟩=false then (1,R) else if sq≤X.1.seq then (10,R) else Z):=Lib.hid (by
   unfold setD
   rw [if_neg (by omega),Int.toNat_natCast,← hX,← hg,hZ,hP0])
 have HPOS:Hid (24+12*(who:Int)=((P0:Nat):Int)):=Lib.hid (by rw [hP0];push_cast;omega)
 have HREC:=Lib.hid (fun w1 (hb:IsRS w1 ts B rd rl rc x c R)=>(rrec_ok ts B rd rl rc x c R who w1 hb hw (by omega) hr).mono (fun e w' hh=>by rw [← hX] at hh;exact hh))
 have HGET:=Lib.hid (fun w1 (hb:IsRS w1 ts B rd rl rc x c R)=>(rget19_any B rd rl rc R ((P0:Nat):Int) w1 hb.disk).mono (fun e w' hh=>by rw [hP0,← hg] at hh;exact hh))
 have HPUT:Hid (∀ (W:World) (pa:Option Addr) (pm pc:Nat),TnS ts B rd rl rc x c R a n cap l w W→OwB1 w.heap.size W pa pm pc (StR.enc ⟨sq,st,l⟩)→Calls Tryz.prog 61 #[.pointer (some ⟨rd,0,none⟩),.int .i64 ((P0:Nat):Int),.int .u32 (succ32 g:Nat),.slice pa pm pc] W fun e w' => e=.returned (.int .i64 Z.1)∧Touch (fun k=>k=rd∨k=rl) W w'∧IsRef w' B rd rl rc Z.2):=Lib.hid (fun W pa pm pc hS hO=>by
   rw [hZ]
   have hlt:=h.disk.lt
   exact rput19_any B rd rl rc R ((P0:Nat):Int) (succ32 g) pa pm pc _ k W hS.st.disk hO.isB (fun b off e hne=>by subst e;have h1:w.heap.size≤b:=owns_base2 hO.2;omega) hk hk2 (succ32_lt g))
 have HW32:Hid (IntKind.u32.wrap ((g:Int)+1)=((succ32 g:Nat):Int)):=Lib.hid (succ32_wrap g (by rw [hg];exact hg32))
 have hlen:fitsC c.r.length ⟨sq,st,l⟩=true→l.length≤8:=fun hf=>(fitsC_bd hf).1
 have HLEN:=Lib.hid hlen
 have hP0b:P0≤200:=by rw [hP0];omega
 have hlt:=h.disk.lt
 have hwb:who≤8:=by omega
 clear h hI hb0 hk hX hg hZ hP0 hg32 hlen
 go_enter Tryz.func27,Tryz.ntmps27
 go_wp2_with fail
 generalize w.alloc (.cells #[.int .u32 sq,.bool st,.slice a n cap] 60)=w0 at HS0 HV0 ⊢
 refine (HREC.out w0 HS0.out.st).mono ?_;rintro e w1 ⟨xa,xm,xc,rfl,hb1,-⟩
 obtain ⟨⟨ws,wst,wl⟩,wok⟩:=X
 dsimp only at HSD ⊢
 have hbx1:Below w1.heap.size w1 (w1.alloc (.cells #[.int .u32 ws,.bool wst,.slice xa xm xc] 60)):=(Below.refl _ _).alloc (Nat.le_refl _) _
 have HS1:=Lib.hid ((HS0.out.below hb1).below hbx1)
 have HV1:=Lib.hid (below_heap hbx1 (below_heap hb1 HV0.out (lt_of_heap HV0.out)) (Nat.lt_of_lt_of_le (lt_of_heap HV0.out) hb1.size))
 have HN1:=Lib.hid (heap_new w1 (.cells #[.int .u32 ws,.bool wst,.slice xa xm xc] 60 (0,0)))
 clear hb1 hbx1 HREC HS0 HV0
 go_wp2_with (first
   | (refine wpList_load_want2 (by rfl) 60 (.tmp 5) rfl w.heap.size 0 rfl [.int .u32 sq,.bool st,.slice a n cap] _ (rangeAt_row HV1.out) Tryz.underlying60 rfl info_rec ?_)
   | fail)
 generalize w1.alloc (.cells #[.int .u32 ws,.bool wst,.slice xa xm xc] 60)=w2 at HS1 HV1 HN1 ⊢
 refine (rfits_any ts B rd rl rc x c R sq st a n cap l w2 HS1.out.st HS1.out.i hr).mono ?_;rintro e w3 ⟨rfl,hb3⟩
 have HS3:=Lib.hid (HS1.out.below hb3)
 have HV3:=Lib.hid (below_heap hb3 HV1.out (lt_of_heap HV1.out))
 have HN3:=Lib.hid (below_heap hb3 HN1.out (lt_of_heap HN1.out))
 clear hb3 HS1 HV1 HN1
 cases hf:fitsC c.r.length ⟨sq,st,l⟩ with
 | false =>
   have H2:Hid (setD c.s.length c.r.length R who ⟨sq,st,l⟩=(1,R)):=Lib.hid (by rw [HSD.out,if_pos hf])
   clear hf
   go_wp2_with fail
   go_ret
   rw [H2.out]
   exact ⟨rfl,Touch.of_below HS3.out.bel,HS3.out.st.disk⟩
 | true =>
   have hl8:=HLEN.out hf
   have H2:Hid (setD c.s.length c.r.length R who ⟨sq,st,l⟩=if sq≤ws then (10,R) else Z):=Lib.hid (by rw [HSD.out,if_neg (by rw [hf];decide)])
   clear hf HSD HLEN
   have y0:w3.cell? ⟨w.heap.size,0,none⟩=some (.int .u32 sq):=by rw [cell_of_block HV3.out];rfl
   have y1:w3.cell? ⟨w1.heap.size,0,none⟩=some (.int .u32 ws):=by rw [cell_of_block HN3.out];rfl
   have f0:=(HS3.out.st.f).1
   by_cases hle:sq≤ws
   · have d1:decide (sq≤ws)=true:=decide_eq_true hle
     have d1':decide ((sq:Int)≤(ws:Int))=true:=decide_eq_true (by omega)
     have H3:Hid (setD c.s.length c.r.length R who ⟨sq,st,l⟩=(10,R)):=Lib.hid (by rw [H2.out,if_pos hle])
     clear hle H2
     go_wp2_with fail
     go_ret
     rw [H3.out]
     exact ⟨rfl,Touch.of_below HS3.out.bel,HS3.out.st.disk⟩
   have d1:decide (sq≤ws)=false:=decide_eq_false hle
   have d1':decide ((sq:Int)≤(ws:Int))=false:=decide_eq_false (by omega)
   have H3:Hid (setD c.s.length c.r.length R who ⟨sq,st,l⟩=Z):=Lib.hid (by rw [H2.out,if_neg hle])
   clear hle H2
   go_wp2_with fail
   rw [HPOS.out]
   refine (HGET.out w3 HS3.out.st).mono ?_;rintro e w4 ⟨ba,bm,bc,rfl,hb4,-⟩
   have HS4:=Lib.hid (HS3.out.below hb4)
   have HV4:=Lib.hid (below_heap hb4 HV3.out (lt_of_heap HV3.out))
   have z0:w4.cell? ⟨w.heap.size,0,none⟩=some (.int .u32 sq):=by rw [cell_of_block HV4.out];rfl
   clear hb4 y0 y1 f0 HS3 HV3 HN3 HGET d1 d1'
   go_wp2_with fail
   refine (rput_v none 0 0 [] sq _ 4 4 _ w4 rfl (by first | with_reducible rfl | rfl) (IsB.nil _) rfl (by decide) (by omega) (by decide)).mono ?_;rintro e w5 ⟨ha,hc,rfl,hb5,ho5⟩
   rw [List.nil_append] at ho5
   have HS5:=Lib.hid (HS4.out.below hb5)
   have HV5:=Lib.hid (below_heap hb5 HV4.out (lt_of_heap HV4.out))
   have HO5:=Lib.hid ho5
   have HB45:=Lib.hid hb5
   have z1:w5.cell? ⟨w.heap.size,1,none⟩=some (.bool st):=by rw [cell_of_block HV5.out];rfl
   clear hb5 ho5 z0
   have f5:=(HS5.out.st.f).1
   have f6:w5.cell? ⟨w.heap.size,2,none⟩=some (.slice a n cap):=by rw [cell_of_block HV5.out];rfl
   have hw32:=HW32.out
   have hd0:=(Below.refl w5.heap.size w5).drew
   have hdA:∀ o,Below w5.heap.size w5 (w5.alloc o).drew:=fun o=>((Below.refl _ _).alloc (Nat.le_refl _) o).drew
   have HENC:=Lib.hid (enc_st sq st l)
   have hn0:w.heap.size<w5.heap.size:=lt_of_heap HV5.out
   cases st with
   | true =>
     have HE2:Hid ((leB sq 4 ++ [1]) ++ encL l=StR.enc ⟨sq,true,l⟩):=Lib.hid HENC.out.symm
     have HC4:Hid (bcells (leB sq 4) ++ [Value.int .u8 1]=bcells (leB sq 4 ++ [1])):=Lib.hid (by rw [bcells_app];rfl)
     have HL5:Hid (4+1=(leB sq 4 ++ [(1:UInt8)]).length):=Lib.hid (by rw [List.length_append,leB_length];rfl)
     clear HENC
     go_wp2_with fail
     go_region_held3 (fun w' => w'.cell? ⟨ts,0,none⟩=some (.pointer (some ⟨rd,0,none⟩))∧w'.cell? ⟨w.heap.size,2,none⟩=some (.slice a n cap)) (first
         | with_reducible exact ⟨x8,x8'⟩
         | with_reducible exact ⟨x7,x7'⟩
         | with_reducible exact ⟨x6,x6'⟩
         | with_reducible exact ⟨cell_later (hdA _) f5,cell_later (hdA _) f6⟩
         | with_reducible exact ⟨cell_later hd0 f5,cell_later hd0 f6⟩) (first
       | (refine step_append_any rowU8 rfl (.tmp 60) (.tmp 62) rfl w4.heap.size _ 4 (bcells (leB sq 4)) rfl (owns_below HO5.out.2 (hdA _)) (some ⟨w5.heap.size,0,none⟩) 1 1 [.int .u8 1] rfl rfl (At.one _ _ _).drew (one_cell _ rfl) (by unfold maxLen;omega) (by omega) (Nat.le_trans HB45.out.size (hdA _).size) ?_
          intro b6 c6 w6 hown6 hg6 _
          rw [HC4.out] at hown6
          have hb46:Below w4.heap.size w4 w6:=(HB45.out.trans ((hdA _).mono HB45.out.size)).grown hg6 (Nat.le_trans HB45.out.size (hdA _).size) (fun k hk=>owns_base HO5.out.2 k hk)
          have hS6:=HS4.out.below hb46
          have x6:=(hS6.st.f).1
          have hv6:=below_heap hb46 HV4.out (lt_of_heap HV4.out)
          have x6':w6.cell? ⟨w.heap.size,2,none⟩=some (.slice a n cap):=by rw [cell_of_block hv6];rfl
          have HS6:=Lib.hid hS6
          have HV6:=Lib.hid hv6
          have HO6:=Lib.hid hown6
          clear hS6 hv6 hown6 hg6 hb46)
       | (go_at_call 74;(with_reducible refine (rputlist_any b6 (4+1) c6 (leB sq 4 ++ [1]) a n cap l w6 (isB_of_owns HO6.out HL5.out) (by rw [← HL5.out];omega) HS6.out.i (by omega)).mono ?_);rintro e w7 ⟨pa,pm,pc,rfl,hb7,ho7⟩
          rw [HE2.out] at ho7
          have hS7:=HS6.out.below hb7
          have x7:=(hS7.st.f).1
          have hv7:=below_heap hb7 HV6.out (lt_of_heap HV6.out)
          have x7':w7.cell? ⟨w.heap.size,2,none⟩=some (.slice a n cap):=by rw [cell_of_block hv7];rfl
          have HS7:=Lib.hid hS7
          have HO7:=Lib.hid (ho7.low HS6.out.bel.size)
          clear hS7 hv7 hb7 ho7)
       | (go_at_call 61;(with_reducible refine (HPUT.out w7 pa pm pc HS7.out HO7.out).mono ?_);rintro e w8 ⟨rfl,ht8,hr8⟩
          have x8:=ht8.cell x7 HS7.out.st.ne
          have x8':=ht8.cell x7' (fun e=>by have e:w.heap.size=rd∨w.heap.size=rl:=e;omega))
       | fail)
     have HT8:=Lib.hid ht8
     have HR8:=Lib.hid hr8
     clear ht8 hr8 x8 x8' x7 x7' x6 x6' f5 f6
     go_wp2_with fail
     go_ret
     rw [H3.out]
     exact ⟨rfl,(Touch.of_below HS7.out.bel).trans HT8.out,HR8.out⟩
   | false =>
     have HE2:Hid ((leB sq 4 ++ [0]) ++ encL l=StR.enc ⟨sq,false,l⟩):=Lib.hid HENC.out.symm
     have HC4:Hid (bcells (leB sq 4) ++ [Value.int .u8 0]=bcells (leB sq 4 ++ [0])):=Lib.hid (by rw [bcells_app];rfl)
     have HL5:Hid (4+1=(leB sq 4 ++ [(0:UInt8)]).length):=Lib.hid (by rw [List.length_append,leB_length];rfl)
     clear HENC
     go_wp2_with fail
     go_region_held3 (fun w' => w'.cell? ⟨ts,0,none⟩=some (.pointer (some ⟨rd,0,none⟩))∧w'.cell? ⟨w.heap.size,2,none⟩=some (.slice a n cap)) (first
         | with_reducible exact ⟨x8,x8'⟩
         | with_reducible exact ⟨x7,x7'⟩
         | with_reducible exact ⟨x6,x6'⟩
         | with_reducible exact ⟨cell_later (hdA _) f5,cell_later (hdA _) f6⟩
         | with_reducible exact ⟨cell_later hd0 f5,cell_later hd0 f6⟩) (first
       | (refine step_append_any rowU8 rfl (.tmp 60) (.tmp 62) rfl w4.heap.size _ 4 (bcells (leB sq 4)) rfl (owns_below HO5.out.2 (hdA _)) (some ⟨w5.heap.size,0,none⟩) 1 1 [.int .u8 0] rfl rfl (At.one _ _ _).drew (one_cell _ rfl) (by unfold maxLen;omega) (by omega) (Nat.le_trans HB45.out.size (hdA _).size) ?_
          intro b6 c6 w6 hown6 hg6 _
          rw [HC4.out] at hown6
          have hb46:Below w4.heap.size w4 w6:=(HB45.out.trans ((hdA _).mono HB45.out.size)).grown hg6 (Nat.le_trans HB45.out.size (hdA _).size) (fun k hk=>owns_base HO5.out.2 k hk)
          have hS6:=HS4.out.below hb46
          have x6:=(hS6.st.f).1
          have hv6:=below_heap hb46 HV4.out (lt_of_heap HV4.out)
          have x6':w6.cell? ⟨w.heap.size,2,none⟩=some (.slice a n cap):=by rw [cell_of_block hv6];rfl
          have HS6:=Lib.hid hS6
          have HV6:=Lib.hid hv6
          have HO6:=Lib.hid hown6
          clear hS6 hv6 hown6 hg6 hb46)
       | (go_at_call 74;(with_reducible refine (rputlist_any b6 (4+1) c6 (leB sq 4 ++ [0]) a n cap l w6 (isB_of_owns HO6.out HL5.out) (by rw [← HL5.out];omega) HS6.out.i (by omega)).mono ?_);rintro e w7 ⟨pa,pm,pc,rfl,hb7,ho7⟩
          rw [HE2.out] at ho7
          have hS7:=HS6.out.below hb7
          have x7:=(hS7.st.f).1
          have hv7:=below_heap hb7 HV6.out (lt_of_heap HV6.out)
          have x7':w7.cell? ⟨w.heap.size,2,none⟩=some (.slice a n cap):=by rw [cell_of_block hv7];rfl
          have HS7:=Lib.hid hS7
          have HO7:=Lib.hid (ho7.low HS6.out.bel.size)
          clear hS7 hv7 hb7 ho7)
       | (go_at_call 61;(with_reducible refine (HPUT.out w7 pa pm pc HS7.out HO7.out).mono ?_);rintro e w8 ⟨rfl,ht8,hr8⟩
          have x8:=ht8.cell x7 HS7.out.st.ne
          have x8':=ht8.cell x7' (fun e=>by have e:w.heap.size=rd∨w.heap.size=rl:=e;omega))
       | fail)
     have HT8:=Lib.hid ht8
     have HR8:=Lib.hid hr8
     clear ht8 hr8 x8 x8' x7 x7' x6 x6' f5 f6
     go_wp2_with fail
     go_ret
     rw [H3.out]
     exact ⟨rfl,(Touch.of_below HS7.out.bel).trans HT8.out,HR8.out⟩
def BIo (B:Nat) (w:World) (vs:List Value) (s:List (List Int)):Prop:=vs.length=s.length∧∀ i (h:i<s.length),∃ a c,vs[i]?=some (.slice a s[i].length c)∧w.ownsRow B 3 1 (.slice a s[i].length c) s[i].length (icells s[i])
theorem BIo.nil (B:Nat) (w:World):BIo B w [] []:=⟨rfl,fun i h=>by simp at h⟩
theorem BIo.touch {B:Nat} {S:Nat→Prop} {w w':World} {vs:List Value} {s:List (List Int)} (h:BIo B w vs s) (ht:Touch S w w') (hs:∀ k,B≤k→(∃ cur,w.heap[k]?=some (.cells cur 3 (0,0)))→¬ S k):BIo B w' vs s :=
 ⟨h.1,fun i hi=>by
   obtain ⟨a,c,h1,h2⟩:=h.2 i hi
   exact ⟨a,c,h1,owns_touch h2 ht (fun k hk=>hs k (owns_base h2 k hk) (owns_block h2 hk))⟩⟩
theorem BIo.snoc {B:Nat} {w:World} {vs:List Value} {s:List (List Int)} (h:BIo B w vs s) {a:Option Addr} {c:Nat} {l:List Int} (hl:w.ownsRow B 3 1 (.slice a l.length c) l.length (icells l)):BIo B w (vs ++ [.slice a l.length c]) (s ++ [l]):=by
 refine ⟨by simp [h.1],fun i hi => ?_⟩
 by_cases hlt:i<s.length
 · obtain ⟨a',c',h1,h2⟩:=h.2 i hlt
   refine ⟨a',c',?_,?_⟩
   · rw [List.getElem?_append_left (by rw [h.1];exact hlt),List.getElem_append_left hlt];exact h1
   · rw [List.getElem_append_left hlt];exact h2
 · have:i=s.length:=by simp at hi;omega
   subst this
   refine ⟨a,c,?_,?_⟩
   · rw [List.getElem?_append_right (by rw [h.1];exact Nat.le_refl _),h.1,Nat.sub_self,List.getElem_append_right (Nat.le_refl _)];simp
   · rw [List.getElem_append_right (Nat.le_refl _)];simpa using hl
theorem BIo.iiv {B:Nat} {w:World} {vs:List Value} {s:List (List Int)} (h:BIo B w vs s):IIv w (fun _=>True) vs s :=
 ⟨h.1,fun i hi=>by
   obtain ⟨a,c,h1,h2⟩:=h.2 i hi
   exact ⟨a,_,c,h1,isI_of_owns h2 rfl,fun b off e _=>trivial⟩⟩
theorem ii_of_owns {B:Nat} {w:World} {a:Option Addr} {n c:Nat} {vs:List Value} {s:List (List Int)} (ho:w.ownsRow B 22 1 (.slice a n c) n vs) (hn:n=s.length) (hv:BIo B w vs s):IsIIp w (fun _=>True) a n c vs s:=by
 subst hn
 refine ⟨rfl,?_,?_,hv.iiv,?_⟩
 · rcases ho.2 with ⟨h,h0⟩ | ⟨g,cap,cur,h,_,_,hnc,hcm,_⟩
   · obtain ⟨_,h1,h2⟩:=Value.slice.inj h;omega
   · cases h;exact hnc
 · rcases ho.2 with ⟨h,h0⟩ | ⟨g,cap,cur,h,_,_,hnc,hcm,_⟩
   · obtain ⟨_,h1,h2⟩:=Value.slice.inj h;rw [h2];decide
   · cases h;exact hcm
 · rcases ho.2 with ⟨h,h0⟩ | ⟨g,cap,cur,h,hb,hg,_⟩
   · exact .inl (List.eq_nil_of_length_eq_zero h0)
   · cases h
     refine .inr ⟨g,0,rfl,trivial,lt_of_heap hg,fun i hi => ?_⟩
     rw [Nat.zero_add]
     exact cells_of_owns ho i _ (List.getElem?_eq_getElem hi)
structure RkJ (B nm:Nat) (ra:Option Addr) (rn rc:Nat) (ov:Value) (r:List Int) (it:Nat) (R:Dsk) (w1:World) (j:Nat) (ba:Option Addr) (bc:Nat) (vs:List Value) (W:World):Prop where
 bel:Below B w1 W
 m:W.heap[nm]?=some (.cells #[.slice ra rn rc,.slice ba j bc,ov] 84 (0,0))
 row:W.ownsRow B 22 1 (.slice ba j bc) j vs
 els:BIo B W vs (bidsK it R j)
 rr:W.ownsRow B 3 1 (.slice ra rn rc) rn (icells r)
theorem RkJ.step {B nm rn rc it j bc c' c8:Nat} {ra ba a b8:Option Addr} {ov:Value} {r l:List Int} {R:Dsk} {w1 wr w2 w8:World} {vs:List Value} {o1 o2:Obj} (h:RkJ B nm ra rn rc ov r it R w1 j ba bc vs wr) (hB:B≤wr.heap.size) (hnm:B≤nm) (hb2:Below wr.heap.size wr w2)
   (hx:w2.ownsRow wr.heap.size 3 1 (.slice a l.length c') l.length (icells l)) (hl:(rcD it R j).1.bid=l) (hg8:((w2.alloc o1).alloc o2).grownBy w8 (Value.slice ba j bc).ownBlock) (ho8:w8.ownsRow B 22 1 (.slice b8 (j+1) c8) (j+1) (vs ++ [.slice a l.length c'])) :
   w8.heap[nm]?=some (.cells #[.slice ra rn rc,.slice ba j bc,ov] 84 (0,0))∧RkJ B nm ra rn rc ov r it R w1 (j+1) b8 c8 (vs ++ [.slice a l.length c']) (w8.setCell ⟨nm,1,none⟩ (.slice b8 (j+1) c8)):=by
 have ho2:=owns_below h.row hb2
 have hA:Below wr.heap.size wr ((w2.alloc o1).alloc o2):=(hb2.alloc hb2.size _).alloc (Nat.le_trans hb2.size (by simp)) _
 have h08:Touch (fun k=>(Value.slice ba j bc).ownBlock=some k) wr w8:=(Touch.of_below (S:=fun k=>(Value.slice ba j bc).ownBlock=some k) hA).grown hg8 (fun k hk=>.inl hk)
 have h28:Touch (fun k=>(Value.slice ba j bc).ownBlock=some k) w2 w8:=(((Touch.refl (fun k=>(Value.slice ba j bc).ownBlock=some k) w2).alloc _).alloc _).grown hg8 (fun k hk=>.inl hk)
 have hm8:w8.heap[nm]?=some (.cells #[.slice ra rn rc,.slice ba j bc,ov] 84 (0,0)):=h08.heap h.m (fun e=>by
   obtain ⟨cur,hc⟩:=owns_block h.row e
   rw [h.m] at hc
   exact absurd (Obj.cells.inj (Option.some.inj hc)).2.1 (by decide))
 have hnot:∀ k,(∃ cur,w2.heap[k]?=some (.cells cur 3 (0,0)))→¬ (Value.slice ba j bc).ownBlock=some k:=fun k ⟨cur,hc⟩ e=>by
   obtain ⟨c2,h2⟩:=owns_block ho2 e
   rw [hc] at h2
   exact absurd (Obj.cells.inj (Option.some.inj h2)).2.1 (by decide)
 have h8X:=touch_set w8 nm 1 (.slice b8 (j+1) c8)
 have hnot8:∀ k e (cur:Array Value),w8.heap[k]?=some (.cells cur e (0,0))→e≠84→¬ k=nm:=fun k e cur hc hne he=>by
   rw [he,hm8] at hc
   exact hne (Obj.cells.inj (Option.some.inj hc)).2.1.symm
 have hr2:=owns_below h.rr hb2
 have he8:BIo B w8 (vs ++ [.slice a l.length c']) (bidsK it R j ++ [l]):=((h.els.touch (Touch.of_below (S:=fun _=>False) hb2) (fun _ _ _ h=>h)).snoc (owns_low hx hB)).touch h28 (fun k _ hk=>hnot k hk)
 have hr8:=owns_touch hr2 h28 (fun k hk=>hnot k (owns_block hr2 hk))
 refine ⟨hm8,?_,?_,?_,?_,?_⟩
 · exact (h.bel.trans ((hA.mono hB))).grown hg8 (Nat.le_trans hB hA.size) (fun k hk=>owns_base h.row k hk) |>.setCell (p:=⟨nm,1,none⟩) hnm _
 · rw [heap_setCell_same _ nm 1 _ _ _ hm8];rfl
 · exact owns_touch ho8 h8X (fun k hk=>by obtain ⟨cur,hc⟩:=owns_block ho8 hk;exact hnot8 k _ cur hc (by decide))
 · rw [bidsK_succ,hl]
   exact he8.touch h8X (fun k _ ⟨cur,hc⟩ => hnot8 k _ cur hc (by decide))
 · exact owns_touch hr8 h8X (fun k hk=>by obtain ⟨cur,hc⟩:=owns_block hr8 hk;exact hnot8 k _ cur hc (by decide))
def RMktQ (w:World) (c:StC) (R:Dsk) (e:Ending) (w':World):Prop :=
 ∃ x:MkA,e=.returned (.tuple #[.agg x.cells.toArray,.int .i64 (ordE c.s.length R)])∧Below w.heap.size w w'∧IsMk w' (fun _=>True) x (if ordE c.s.length R=0 then mktC c R else ⟨[],[],[]⟩)
theorem at2 (w:World) (o1:Obj) (v:Value) (e:TypeId):At ((w.alloc o1).alloc (.cells #[v] e)) (some ⟨w.heap.size+1,0,none⟩) [v]:=by
 have h:=At.one (w.alloc o1) v e
 rwa [show (w.alloc o1).heap.size=w.heap.size+1 by simp] at h
theorem bidsK_zero (it:Nat) (R:Dsk):bidsK it R 0=[]:=rfl
theorem info_mktR:(Tryz.prog.info? 84).map (·.size)=some 3:=by kernel_rfl
theorem mkt3_one (ra sa aa:Option Addr) (rn rc sn sc an ac:Nat):∀ v ∈ [Value.slice ra rn rc,.slice sa sn sc,.slice aa an ac],v.oneCell'=true:=by
 intro v hv
 simp at hv
 rcases hv with rfl | rfl | rfl <;> rfl
set_option maxHeartbeats 16000000 in
theorem rmarket_any (ts B rd rl rc:Nat) (x:StA) (c:StC) (R:Dsk) (w:World) (h:IsRS w ts B rd rl rc x c R) (hs:c.s.length≤8) (hr:c.r.length≤8) :
   Calls Tryz.prog 35 #[.pointer (some ⟨ts,0,none⟩)] w (RMktQ w c R):=by
 have hb0:Below w.heap.size w (w.alloc (.cells #[.slice none 0 0,.slice none 0 0,.slice none 0 0] 84)):=(Below.refl _ _).alloc (Nat.le_refl _) _
 have HV0:=Lib.hid (heap_new w (.cells #[.slice none 0 0,.slice none 0 0,.slice none 0 0] 84 (0,0)))
 have HS0:=Lib.hid (h.below hb0)
 have HB0:=Lib.hid hb0
 obtain ⟨E,hE⟩:∃ E,E=ordE c.s.length R:=⟨_,rfl⟩
 obtain ⟨L,hL⟩:∃ L,L=ordL c.s.length R:=⟨_,rfl⟩
 obtain ⟨M,hM⟩:∃ M,M=(if E=0 then mktC c R else ⟨[],[],[]⟩):=⟨_,rfl⟩
 have HQ:Hid (∀ (x:MkA) (w':World),Below w.heap.size w w'→IsMk w' (fun _=>True) x M→RMktQ w c R (.returned (.tuple #[.agg x.cells.toArray,.int .i64 E])) w'):=Lib.hid (fun x w' hb hm=>⟨x,by rw [hE],hb,by rw [← hE,← hM];exact hm⟩)
 have HORD:=Lib.hid (fun w1 (hb:IsRS w1 ts B rd rl rc x c R)=>(rorder_pub ts B rd rl rc x c R w1 hb (by omega)).mono (fun e w' hh=>by rw [← hE,← hL] at hh;exact hh))
 have HE:=Lib.hid hE
 have HM:=Lib.hid hM
 have HL:=Lib.hid hL
 clear h hb0 hE hM hL
 go_enter Tryz.func35,Tryz.ntmps35
 go_wp2_with fail
 generalize w.alloc (.cells #[.slice none 0 0,.slice none 0 0,.slice none 0 0] 84)=w0 at HS0 HV0 HB0 ⊢
 refine (HORD.out w0 HS0.out).mono ?_;rintro e w1 ⟨oa,om,oc,rfl,hb1,hi1⟩
 have HS1:=Lib.hid (HS0.out.below hb1)
 have HB1:=Lib.hid (HB0.out.trans (hb1.mono HB0.out.size))
 have HV1:=Lib.hid (below_heap hb1 HV0.out (lt_of_heap HV0.out))
 have HI1:=Lib.hid hi1
 have hn1:w.heap.size<w1.heap.size:=lt_of_heap HV1.out
 clear hb1 hi1 HORD HS0 HB0 HV0
 by_cases hE0:E=0
 · have d1:(E == 0)=true:=by rw [beq_iff_eq];exact hE0
   have d1':(E != 0)=false:=by rw [bne,d1];rfl
   have HM0:Hid (M=⟨c.r,bidsK c.r.length R c.s.length,L⟩):=Lib.hid (by rw [HM.out,if_pos hE0,HL.out];rfl)
   have HE0:=Lib.hid hE0
   clear hE0 HM
   have f1:=(HS1.out.f).2.1
   have hRI:=HS1.out.cfg.r.1
   have HRI:=Lib.hid hRI
   clear hRI
   have HIC:=Lib.hid (icells_length c.r)
   go_wp2_with (first
     | (at_builtin;refine wpList_append_any rowInt rfl (.const (.slice none 0 0)) (.tmp 23) rfl w1.heap.size (.slice none 0 0) 0 [] rfl (World.ownsRow_nil _ _ _ _) x.ra c.r.length x.rc (icells c.r) rfl (by rw [HIC.out];omega) (HRI.out.at') (icells_one _) (by unfold maxLen;omega) (by omega) (Nat.le_refl _) ?_;intro b2 c2 w2 hown2 hg2 hat2)
     | fail)
   have hz:(0:Nat)+c.r.length=c.r.length:=Nat.zero_add _
   rw [hz,List.nil_append] at hown2
   have hb2:Below w1.heap.size w1 w2:=(Below.refl _ _).grown hg2 (Nat.le_refl _) (by simp [Value.ownBlock])
   have hbx:Below w2.heap.size w2 (w2.alloc (.cells #[.slice b2 c.r.length c2,.slice none 0 0,.slice oa om oc] 84)):=(Below.refl _ _).alloc (Nat.le_refl _) _
   have hJ:RkJ w1.heap.size w2.heap.size b2 c.r.length c2 (.slice oa om oc) c.r c.r.length R w1 0 none 0 [] (w2.alloc (.cells #[.slice b2 c.r.length c2,.slice none 0 0,.slice oa om oc] 84)):=⟨hb2.trans (hbx.mono hb2.size),heap_new w2 _,World.ownsRow_nil _ _ _ _,by rw [bidsK_zero];exact BIo.nil _ _,owns_below hown2 hbx⟩
   have hnm:w1.heap.size≤w2.heap.size:=hb2.size
   obtain ⟨nm,hnmE⟩:∃ nm,nm=w2.heap.size:=⟨_,rfl⟩
   rw [← hnmE] at hJ hnm ⊢
   generalize w2.alloc (.cells #[.slice b2 c.r.length c2,.slice none 0 0,.slice oa om oc] 84)=w3 at hJ ⊢
   have HJ3:=Lib.hid hJ
   clear hz hown2 hg2 hat2 hb2 hbx hJ hnmE HIC HRI f1
   obtain ⟨N,hN⟩:∃ N,N=c.s.length:=⟨_,rfl⟩
   have HN:=Lib.hid hN
   clear hN
   go_loopw [7] (fun i wr => ∃ (j:Nat) (ba:Option Addr) (bc:Nat) (vs:List Value),j≤c.s.length∧i=.int .i64 j∧Hid (RkJ w1.heap.size nm b2 c.r.length c2 (.slice oa om oc) c.r c.r.length R w1 j ba bc vs wr)) (fun i _=>N - (intOf i).toNat)
   case atStart=>exact ⟨0,none,0,[],Nat.zero_le _,rfl,HJ3⟩
   case round =>
     clear HJ3
     obtain ⟨j,ba,bc,vs,hj,rfl,HJ⟩:=hrel
     have HSr:=Lib.hid (HS1.out.below HJ.out.bel)
     have f2:=(HSr.out.f).2.2
     have hwr:=HJ.out.bel.size
     by_cases hlt:j<c.s.length
     · have hd0:decide (j<c.s.length)=true:=decide_eq_true hlt
       go_wp2_with fail
       refine (rrecord_any ts B rd rl rc x c R j wr HSr.out (by omega) (by omega)).mono ?_;rintro e w4 ⟨xa,xm,xc,rfl,hb4,ho4⟩
       obtain ⟨X,hX⟩:∃ X,X=rcD c.r.length R j:=⟨_,rfl⟩
       have HX:Hid ((rcD c.r.length R j).1.bid=X.1.bid):=Lib.hid (by rw [hX])
       rw [← hX] at ho4 ⊢
       clear hX
       obtain ⟨⟨sq,st,l⟩,ok⟩:=X
       dsimp only at ho4 HX ⊢
       obtain ⟨rfl,ho4⟩:=ho4
       have HB4:=Lib.hid hb4
       have HO4:=Lib.hid ho4
       have HROW4:=Lib.hid (owns_below HJ.out.row hb4)
       have q1:∀ o,(w4.alloc o).cell? ⟨nm,1,none⟩=some (.slice ba j bc):=fun o=>cell_alloc (by rw [cell_of_block (below_heap hb4 HJ.out.m (lt_of_heap HJ.out.m))];rfl) o
       have hj9:j≤8:=by omega
       have hs4:=hb4.size
       clear hb4 ho4 f2
       go_wp2_with (first
         | (at_builtin;refine wpList_append_any rowII rfl _ _ rfl w1.heap.size _ j vs rfl ((HROW4.out.alloc _).alloc _) (some ⟨w4.heap.size+1,0,none⟩) 1 1 [.slice xa l.length xc] rfl rfl (at2 _ _ _ _) (one_cell _ rfl) (by unfold maxLen;omega) (by omega) (by simp;omega) ?_;intro b8 c8 w8 hown8 hg8 hat8
            obtain ⟨hm8,hJ8⟩:=RkJ.step HJ.out hwr hnm HB4.out HO4.out HX.out hg8 hown8
            have q3:w8.cell? ⟨nm,1,none⟩=some (.slice ba j bc):=by rw [cell_of_block hm8];rfl
            have q4:w8.frozen? ⟨nm,1,none⟩=false:=blk_free hm8
            have HJ8:=Lib.hid hJ8
            clear hown8 hg8 hat8 hm8 hJ8)
         | fail)
       go_wp2_with fail
       go_roundw
       case rel=>exact ⟨j+1,b8,c8,_,by omega,by go_num,HJ8⟩
       case measure=>have:=HN.out;simp [intOf];omega
     · have hjj:j=c.s.length:=by omega
       subst hjj
       have hv2:=below_heap (B:=w1.heap.size) HJ.out.bel HV1.out hn1
       have HV2:=Lib.hid hv2
       have HM2:=Lib.hid HJ.out.m
       clear hv2
       go_wp2_with (first
         | (refine wpList_load_mid rfl 84 (.tmp 6) rfl nm 0 rfl [.slice b2 c.r.length c2,.slice ba c.s.length bc,.slice oa om oc] _ (rangeAt_row HM2.out) Tryz.underlying84 rfl info_mktR ?_)
         | (refine wpList_store_whole rfl 84 (.tmp 2) (.tmp 50) rfl w.heap.size [.slice b2 c.r.length c2,.slice ba c.s.length bc,.slice oa om oc] _ _ HV2.out rfl rfl rfl info_mktR (mkt3_one _ _ _ _ _ _ _ _ _) ?_;intro w5 ht5 hg5)
         | fail)
       refine bodyPost_ret (results_cell_tmp rfl _ _ w.heap.size 0 rfl [.slice b2 c.r.length c2,.slice ba c.s.length bc,.slice oa om oc] _ (rangeAt_row hg5) Tryz.underlying84 rfl info_mktR) rfl ?_
       have hne:∀ k e (cur:Array Value),wr.heap[k]?=some (.cells cur e (0,0))→e≠84→¬ k=w.heap.size:=fun k e cur hc hne he=>by
         rw [he,HV2.out] at hc
         exact hne (Obj.cells.inj (Option.some.inj hc)).2.1.symm
       have hrr:=owns_touch HJ.out.rr ht5 (fun k hk=>by obtain ⟨cur,hc⟩:=owns_block HJ.out.rr hk;exact hne k _ cur hc (by decide))
       have hrow:=owns_touch HJ.out.row ht5 (fun k hk=>by obtain ⟨cur,hc⟩:=owns_block HJ.out.row hk;exact hne k _ cur hc (by decide))
       have hels:=HJ.out.els.touch ht5 (fun k _ ⟨cur,hc⟩ => hne k _ cur hc (by decide))
       have ho5:=(HI1.out.below HJ.out.bel)
       have ho6:=ho5.touch ht5 (ho5.off HV2.out (by rfl))
       have hbw:=HB1.out.trans (HJ.out.bel.mono HB1.out.size)
       have hend:=HQ.out ⟨b2,c.r.length,c2,ba,c.s.length,bc,vs,oa,om,oc⟩ w5 (hbw.trans (ht5.below hbw.size (fun k hk e=>by omega))) (by
         rw [HM0.out]
         exact ⟨⟨isI_of_owns hrr rfl,fun _ _ _ _=>trivial⟩,ii_of_owns hrow (bidsK_length _ _ _).symm hels,⟨ho6,fun _ _ _ _=>trivial⟩⟩)
       rw [HE0.out] at hend
       exact hend
 · have d1:(E == 0)=false:=by rw [beq_eq_false_iff_ne];exact hE0
   have d1':(E != 0)=true:=by rw [bne,d1];rfl
   have HM0:Hid (M=⟨[],[],[]⟩):=Lib.hid (by rw [HM.out,if_neg hE0])
   clear hE0 HM
   go_wp2_with (first
     | (refine wpList_store_whole rfl 84 (.tmp 2) (.tmp 17) rfl w.heap.size [.slice none 0 0,.slice none 0 0,.slice none 0 0] _ _ HV1.out rfl rfl rfl info_mktR (mkt3_one _ _ _ _ _ _ _ _ _) ?_;intro w4 ht4 hg4)
     | fail)
   refine bodyPost_ret (results_cell_tmp rfl _ _ w.heap.size 0 rfl [.slice none 0 0,.slice none 0 0,.slice none 0 0] _ (rangeAt_row hg4) Tryz.underlying84 rfl info_mktR) rfl ?_
   exact HQ.out MkA.zero w4 (HB1.out.trans (ht4.below HB1.out.size (fun k hk e=>by omega))) (by rw [HM0.out];exact IsMk.zero _ _)
end Go.Proofs.YtgbikngicidbkaaGreatDoor
