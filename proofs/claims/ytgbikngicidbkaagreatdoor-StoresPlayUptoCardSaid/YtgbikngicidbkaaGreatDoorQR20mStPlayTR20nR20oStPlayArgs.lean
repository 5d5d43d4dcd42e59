/- The document's stores (salesroomref20): Set;conditions: those typed. -/
import Derived.Test.YtgbikngicidbkaaGreatDoorQR20iR20jR20kR20l
import Derived.Test.YtgbikngicidbkaaGreatDoorQStMktKBpMStPlaySStMktPStActStLawM
import Derived.Test.YtgbikngicidbkaaGreatDoorQStTyC
import Derived.Test.YtgbikngicidbkaaGreatDoorQGStTwStTRStOpnStGrtStCfgStGrtE
import Derived.Test.YtgbikngicidbkaaGreatDoorQTwinCTwinCfg
import Derived.Test.YtgbikngicidbkaaGreatDoorQFieldArgs
import Derived.Test.YtgbikngicidbkaaGreatDoorQGStCGStCloStArg2
import Derived.Test.YtgbikngicidbkaaGreatDoorQMChkSameRSameC
import Derived.Deep.Slices
import Derived.OpenShut
namespace Go.Proofs.YtgbikngicidbkaaGreatDoor
open Go.RowKit
set_option linter.unusedVariables false
set_option linter.unusedSimpArgs false
set_option maxRecDepth 100000
set_option maxHeartbeats 4000000 in
theorem rset_bad (ts B rd rl rc:Nat) (x:StA) (c:StC) (R:Dsk) (who:Int) (sq:Nat) (st:Bool) (a:Option Addr) (n cap:Nat) (w:World) (h:IsRS w ts B rd rl rc x c R) (hw:who<0∨(c.s.length:Int)≤who) :
   Calls Tryz.prog 27 #[.pointer (some ⟨ts,0,none⟩),.int .i64 who,.agg #[.int .u32 sq,.bool st,.slice a n cap]] w fun e w' => e=.returned (.int .i64 1)∧Below w.heap.size w w':=by
 have hb0:Below w.heap.size w (w.alloc (.cells #[.int .u32 sq,.bool st,.slice a n cap] 60)):=(Below.refl _ _).alloc (Nat.le_refl _) _
 have HS:=Lib.hid (h.below hb0)
 have HB:=Lib.hid hb0
 clear h hb0
 go_enter Tryz.func27,Tryz.ntmps27
 go_wp2_with fail
 generalize w.alloc (.cells #[.int .u32 sq,.bool st,.slice a n cap] 60)=w0 at HS HB ⊢
 refine (rrec_bad ts B rd rl rc x c R who w0 HS.out hw).mono ?_;rintro e w1 ⟨rfl,hb1⟩
 have hb2:=HB.out.trans (hb1.mono HB.out.size)
 have hbx:∀ o,Below w.heap.size w (w1.alloc o):=fun o=>hb2.alloc hb2.size o
 have HBX:=Lib.hid hbx
 clear hb1 hb2 hbx
 go_wp2_with fail
 go_ret
 exact ⟨rfl,HBX.out _⟩
set_option maxHeartbeats 16000000 in
theorem rset_ok (ts B rd rl rc:Nat) (x:StA) (c:StC) (R:Dsk) (who:Nat) (sq:Nat) (st:Bool) (a:Option Addr) (n cap:Nat) (l:List Int) (k:Int) (w:World) (h:IsRS w ts B rd rl rc x c R) (hI:IsI w a n cap l) (hsq:sq<4294967296) (hw:who<c.s.length) (hs:c.s.length≤8) (hr:c.r.length≤1000000) (hk:R.fine k) (hk2:k≤1000000000000000) (hg32:(R.get ((12*(2+who):Nat):Int)).1<4294967296) :
   Calls Tryz.prog 27 #[.pointer (some ⟨ts,0,none⟩),.int .i64 who,.agg #[.int .u32 sq,.bool st,.slice a n cap]] w fun e w' => e=.returned (.int .i64 (setD c.s.length c.r.length R who ⟨sq,st,l⟩).1)∧Touch (fun k=>k=rd∨k=rl) w w'∧IsRef w' B rd rl rc (setD c.s.length c.r.length R who ⟨sq,st,l⟩).2:=by
 have hb0:Below w.heap.size w (w.alloc (.cells #[.int .u32 sq,.bool st,.slice a n cap] 60)):=(Below.refl _ _).alloc (Nat.le_refl _) _
 have HV0:=Lib.hid (heap_new w (.cells #[.int .u32 sq,.bool st,.slice a n cap] 60 (0,0)))
 have HS0:Hid (TnS ts B rd rl rc x c R a n cap l w (w.alloc (.cells #[.int .u32 sq,.bool st,.slice a n cap] 60))):=Lib.hid ⟨h.below hb0,hb0,hI.below hb0⟩
 obtain ⟨X,hX⟩:∃ X,X=rcD c.r.length R who:=⟨_,rfl⟩
 obtain ⟨g,hg⟩:∃ g,g=(R.get ((12*(2+who):Nat):Int)).1:=⟨_,rfl⟩
 obtain ⟨P0,hP0⟩:∃ P0,P0=12*(2+who):=⟨_,rfl⟩
 obtain ⟨Z,hZ⟩:∃ Z,Z=R.put ((P0:Nat):Int) (succ32 g) (StR.enc ⟨sq,st,l⟩):=⟨_,rfl⟩
 have HSD:Hid (setD c.s.length c.r.length R who ⟨sq,st,l⟩=if fitsC c.r.length ⟨sq,st,l⟩=false then (1,R) else if sq≤X.1.seq then (10,R) else Z):=Lib.hid (by
   unfold setD
   rw [if_neg (by omega),Int.toNat_natCast,← hX,← hg,hZ,hP0])
 have HPOS:Hid (24+12*(who:Int)=((P0:Nat):Int)):=Lib.hid (by rw [hP0];push_cast;omega)
 have HREC:=Lib.hid (fun w1 (hb:IsRS w1 ts B rd rl rc x c R)=>(rrec_ok ts B rd rl rc x c R who w1 hb hw (by omega) hr).mono (fun e w' hh=>by rw [← hX] at hh;exact hh))
 have HGET:=Lib.hid (fun w1 (hb:IsRS w1 ts B rd rl rc x c R)=>(rget19_any B rd rl rc R ((P0:Nat):Int) w1 hb.disk).mono (fun e w' hh=>by rw [hP0,← hg] at hh;exact hh))
 have HPUT:Hid (∀ (W:World) (pa:Option Addr) (pm pc:Nat),TnS ts B rd rl rc x c R a n cap l w W→OwB1 w.heap.size W pa pm pc (StR.enc ⟨sq,st,l⟩)→Calls Tryz.prog 61 #[.pointer (some ⟨rd,0,none⟩),.int .i64 ((P0:Nat):Int),.int .u32 (succ32 g:Nat),.slice pa pm pc] W fun e w' => e=.returned (.int .i64 Z.1)∧Touch (fun k=>k=rd∨k=rl) W w'∧IsRef w' B rd rl rc Z.2):=Lib.hid (fun W pa pm pc hS hO=>by
   rw [hZ]
   have hlt:=h.disk.lt
   exact rput19_any B rd rl rc R ((P0:Nat):Int) (succ32 g) pa pm pc _ k W hS.st.disk hO.isB (fun b off e hne=>by subst e;have h1:w.heap.size≤b:=owns_base2 hO.2;omega) hk hk2 (succ32_lt g))
 have HW32:Hid (IntKind.u32.wrap ((g:Int)+1)=((succ32 g:Nat):Int)):=Lib.hid (succ32_wrap g (by rw [hg];exact hg32))
 have hlen:fitsC c.r.length ⟨sq,st,l⟩=true→l.length≤8:=fun hf=>(fitsC_bd hf).1
 have HLEN:=Lib.hid hlen
 have hP0b:P0≤200:=by rw [hP0];omega
 have hlt:=h.disk.lt
 have hwb:who≤8:=by omega
 clear h hI hb0 hk hX hg hZ hP0 hg32 hlen
 go_enter Tryz.func27,Tryz.ntmps27
 go_wp2_with fail
 generalize w.alloc (.cells #[.int .u32 sq,.bool st,.slice a n cap] 60)=w0 at HS0 HV0 ⊢
 refine (HREC.out w0 HS0.out.st).mono ?_;rintro e w1 ⟨xa,xm,xc,rfl,hb1,-⟩
 obtain ⟨⟨ws,wst,wl⟩,wok⟩:=X
 dsimp only at HSD ⊢
 have hbx1:Below w1.heap.size w1 (w1.alloc (.cells #[.int .u32 ws,.bool wst,.slice xa xm xc] 60)):=(Below.refl _ _).alloc (Nat.le_refl _) _
 have HS1:=Lib.hid ((HS0.out.below hb1).below hbx1)
 have HV1:=Lib.hid (below_heap hbx1 (below_heap hb1 HV0.out (lt_of_heap HV0.out)) (Nat.lt_of_lt_of_le (lt_of_heap HV0.out) hb1.size))
 have HN1:=Lib.hid (heap_new w1 (.cells #[.int .u32 ws,.bool wst,.slice xa xm xc] 60 (0,0)))
 clear hb1 hbx1 HREC HS0 HV0
 go_wp2_with (first
   | (refine wpList_load_want2 (by rfl) 60 (.tmp 5) rfl w.heap.size 0 rfl [.int .u32 sq,.bool st,.slice a n cap] _ (rangeAt_row HV1.out) Tryz.underlying60 rfl info_rec ?_)
   | fail)
 generalize w1.alloc (.cells #[.int .u32 ws,.bool wst,.slice xa xm xc] 60)=w2 at HS1 HV1 HN1 ⊢
 refine (rfits_any ts B rd rl rc x c R sq st a n cap l w2 HS1.out.st HS1.out.i hr).mono ?_;rintro e w3 ⟨rfl,hb3⟩
 have HS3:=Lib.hid (HS1.out.below hb3)
 have HV3:=Lib.hid (below_heap hb3 HV1.out (lt_of_heap HV1.out))
 have HN3:=Lib.hid (below_heap hb3 HN1.out (lt_of_heap HN1.out))
 clear hb3 HS1 HV1 HN1
 cases hf:fitsC c.r.length ⟨sq,st,l⟩ with
 | false =>
   have H2:Hid (setD c.s.length c.r.length R who ⟨sq,st,l⟩=(1,R)):=Lib.hid (by rw [HSD.out,if_pos hf])
   clear hf
   go_wp2_with fail
   go_ret
   rw [H2.out]
   exact ⟨rfl,Touch.of_below HS3.out.bel,HS3.out.st.disk⟩
 | true =>
   have hl8:=HLEN.out hf
   have H2:Hid (setD c.s.length c.r.length R who ⟨sq,st,l⟩=if sq≤ws then (10,R) else Z):=Lib.hid (by rw [HSD.out,if_neg (by rw [hf];decide)])
   clear hf HSD HLEN
   have y0:w3.cell? ⟨w.heap.size,0,none⟩=some (.int .u32 sq):=by rw [cell_of_block HV3.out];rfl
   have y1:w3.cell? ⟨w1.heap.size,0,none⟩=some (.int .u32 ws):=by rw [cell_of_block HN3.out];rfl
   have f0:=(HS3.out.st.f).1
   by_cases hle:sq≤ws
   · have d1:decide (sq≤ws)=true:=decide_eq_true hle
     have d1':decide ((sq:Int)≤(ws:Int))=true:=decide_eq_true (by omega)
     have H3:Hid (setD c.s.length c.r.length R who ⟨sq,st,l⟩=(10,R)):=Lib.hid (by rw [H2.out,if_pos hle])
     clear hle H2
     go_wp2_with fail
     go_ret
     rw [H3.out]
     exact ⟨rfl,Touch.of_below HS3.out.bel,HS3.out.st.disk⟩
   have d1:decide (sq≤ws)=false:=decide_eq_false hle
   have d1':decide ((sq:Int)≤(ws:Int))=false:=decide_eq_false (by omega)
   have H3:Hid (setD c.s.length c.r.length R who ⟨sq,st,l⟩=Z):=Lib.hid (by rw [H2.out,if_neg hle])
   clear hle H2
   go_wp2_with fail
   rw [HPOS.out]
   refine (HGET.out w3 HS3.out.st).mono ?_;rintro e w4 ⟨ba,bm,bc,rfl,hb4,-⟩
   have HS4:=Lib.hid (HS3.out.below hb4)
   have HV4:=Lib.hid (below_heap hb4 HV3.out (lt_of_heap HV3.out))
   have z0:w4.cell? ⟨w.heap.size,0,none⟩=some (.int .u32 sq):=by rw [cell_of_block HV4.out];rfl
   clear hb4 y0 y1 f0 HS3 HV3 HN3 HGET d1 d1'
   go_wp2_with fail
   refine (rput_v none 0 0 [] sq _ 4 4 _ w4 rfl (by first | with_reducible rfl | rfl) (IsB.nil _) rfl (by decide) (by omega) (by decide)).mono ?_;rintro e w5 ⟨ha,hc,rfl,hb5,ho5⟩
   rw [List.nil_append] at ho5
   have HS5:=Lib.hid (HS4.out.below hb5)
   have HV5:=Lib.hid (below_heap hb5 HV4.out (lt_of_heap HV4.out))
   have HO5:=Lib.hid ho5
   have HB45:=Lib.hid hb5
   have z1:w5.cell? ⟨w.heap.size,1,none⟩=some (.bool st):=by rw [cell_of_block HV5.out];rfl
   clear hb5 ho5 z0
   have f5:=(HS5.out.st.f).1
   have f6:w5.cell? ⟨w.heap.size,2,none⟩=some (.slice a n cap):=by rw [cell_of_block HV5.out];rfl
   have hw32:=HW32.out
   have hd0:=(Below.refl w5.heap.size w5).drew
   have hdA:∀ o,Below w5.heap.size w5 (w5.alloc o).drew:=fun o=>((Below.refl _ _).alloc (Nat.le_refl _) o).drew
   have HENC:=Lib.hid (enc_st sq st l)
   have hn0:w.heap.size<w5.heap.size:=lt_of_heap HV5.out
   cases st with
   | true =>
     have HE2:Hid ((leB sq 4 ++ [1]) ++ encL l=StR.enc ⟨sq,true,l⟩):=Lib.hid HENC.out.symm
     have HC4:Hid (bcells (leB sq 4) ++ [Value.int .u8 1]=bcells (leB sq 4 ++ [1])):=Lib.hid (by rw [bcells_app];rfl)
     have HL5:Hid (4+1=(leB sq 4 ++ [(1:UInt8)]).length):=Lib.hid (by rw [List.length_append,leB_length];rfl)
     clear HENC
     go_wp2_with fail
     go_region_held3 (fun w' => w'.cell? ⟨ts,0,none⟩=some (.pointer (some ⟨rd,0,none⟩))∧w'.cell? ⟨w.heap.size,2,none⟩=some (.slice a n cap)) (first
         | with_reducible exact ⟨x8,x8'⟩
         | with_reducible exact ⟨x7,x7'⟩
         | with_reducible exact ⟨x6,x6'⟩
         | with_reducible exact ⟨cell_later (hdA _) f5,cell_later (hdA _) f6⟩
         | with_reducible exact ⟨cell_later hd0 f5,cell_later hd0 f6⟩) (first
       | (refine step_append_any rowU8 rfl (.tmp 60) (.tmp 62) rfl w4.heap.size _ 4 (bcells (leB sq 4)) rfl (owns_below HO5.out.2 (hdA _)) (some ⟨w5.heap.size,0,none⟩) 1 1 [.int .u8 1] rfl rfl (At.one _ _ _).drew (one_cell _ rfl) (by unfold maxLen;omega) (by omega) (Nat.le_trans HB45.out.size (hdA _).size) ?_
          intro b6 c6 w6 hown6 hg6 _
          rw [HC4.out] at hown6
          have hb46:Below w4.heap.size w4 w6:=(HB45.out.trans ((hdA _).mono HB45.out.size)).grown hg6 (Nat.le_trans HB45.out.size (hdA _).size) (fun k hk=>owns_base HO5.out.2 k hk)
          have hS6:=HS4.out.below hb46
          have x6:=(hS6.st.f).1
          have hv6:=below_heap hb46 HV4.out (lt_of_heap HV4.out)
          have x6':w6.cell? ⟨w.heap.size,2,none⟩=some (.slice a n cap):=by rw [cell_of_block hv6];rfl
          have HS6:=Lib.hid hS6
          have HV6:=Lib.hid hv6
          have HO6:=Lib.hid hown6
          clear hS6 hv6 hown6 hg6 hb46)
       | (go_at_call 74;(with_reducible refine (rputlist_any b6 (4+1) c6 (leB sq 4 ++ [1]) a n cap l w6 (isB_of_owns HO6.out HL5.out) (by rw [← HL5.out];omega) HS6.out.i (by omega)).mono ?_);rintro e w7 ⟨pa,pm,pc,rfl,hb7,ho7⟩
          rw [HE2.out] at ho7
          have hS7:=HS6.out.below hb7
          have x7:=(hS7.st.f).1
          have hv7:=below_heap hb7 HV6.out (lt_of_heap HV6.out)
          have x7':w7.cell? ⟨w.heap.size,2,none⟩=some (.slice a n cap):=by rw [cell_of_block hv7];rfl
          have HS7:=Lib.hid hS7
          have HO7:=Lib.hid (ho7.low HS6.out.bel.size)
          clear hS7 hv7 hb7 ho7)
       | (go_at_call 61;(with_reducible refine (HPUT.out w7 pa pm pc HS7.out HO7.out).mono ?_);rintro e w8 ⟨rfl,ht8,hr8⟩
          have x8:=ht8.cell x7 HS7.out.st.ne
          have x8':=ht8.cell x7' (fun e=>by have e:w.heap.size=rd∨w.heap.size=rl:=e;omega))
       | fail)
     have HT8:=Lib.hid ht8
     have HR8:=Lib.hid hr8
     clear ht8 hr8 x8 x8' x7 x7' x6 x6' f5 f6
     go_wp2_with fail
     go_ret
     rw [H3.out]
     exact ⟨rfl,(Touch.of_below HS7.out.bel).trans HT8.out,HR8.out⟩
   | false =>
     have HE2:Hid ((leB sq 4 ++ [0]) ++ encL l=StR.enc ⟨sq,false,l⟩):=Lib.hid HENC.out.symm
     have HC4:Hid (bcells (leB sq 4) ++ [Value.int .u8 0]=bcells (leB sq 4 ++ [0])):=Lib.hid (by rw [bcells_app];rfl)
     have HL5:Hid (4+1=(leB sq 4 ++ [(0:UInt8)]).length):=Lib.hid (by rw [List.length_append,leB_length];rfl)
     clear HENC
     go_wp2_with fail
     go_region_held3 (fun w' => w'.cell? ⟨ts,0,none⟩=some (.pointer (some ⟨rd,0,none⟩))∧w'.cell? ⟨w.heap.size,2,none⟩=some (.slice a n cap)) (first
         | with_reducible exact ⟨x8,x8'⟩
         | with_reducible exact ⟨x7,x7'⟩
         | with_reducible exact ⟨x6,x6'⟩
         | with_reducible exact ⟨cell_later (hdA _) f5,cell_later (hdA _) f6⟩
         | with_reducible exact ⟨cell_later hd0 f5,cell_later hd0 f6⟩) (first
       | (refine step_append_any rowU8 rfl (.tmp 60) (.tmp 62) rfl w4.heap.size _ 4 (bcells (leB sq 4)) rfl (owns_below HO5.out.2 (hdA _)) (some ⟨w5.heap.size,0,none⟩) 1 1 [.int .u8 0] rfl rfl (At.one _ _ _).drew (one_cell _ rfl) (by unfold maxLen;omega) (by omega) (Nat.le_trans HB45.out.size (hdA _).size) ?_
          intro b6 c6 w6 hown6 hg6 _
          rw [HC4.out] at hown6
          have hb46:Below w4.heap.size w4 w6:=(HB45.out.trans ((hdA _).mono HB45.out.size)).grown hg6 (Nat.le_trans HB45.out.size (hdA _).size) (fun k hk=>owns_base HO5.out.2 k hk)
          have hS6:=HS4.out.below hb46
          have x6:=(hS6.st.f).1
          have hv6:=below_heap hb46 HV4.out (lt_of_heap HV4.out)
          have x6':w6.cell? ⟨w.heap.size,2,none⟩=some (.slice a n cap):=by rw [cell_of_block hv6];rfl
          have HS6:=Lib.hid hS6
          have HV6:=Lib.hid hv6
          have HO6:=Lib.hid hown6
          clear hS6 hv6 hown6 hg6 hb46)
       | (go_at_call 74;(with_reducible refine (rputlist_any b6 (4+1) c6 (leB sq 4 ++ [0]) a n cap l w6 (isB_of_owns HO6.out HL5.out) (by rw [← HL5.out];omega) HS6.out.i (by omega)).mono ?_);rintro e w7 ⟨pa,pm,pc,rfl,hb7,ho7⟩
          rw [HE2.out] at ho7
          have hS7:=HS6.out.below hb7
          have x7:=(hS7.st.f).1
          have hv7:=below_heap hb7 HV6.out (lt_of_heap HV6.out)
          have x7':w7.cell? ⟨w.heap.size,2,none⟩=some (.slice a n cap):=by rw [cell_of_block hv7];rfl
          have HS7:=Lib.hid hS7
          have HO7:=Lib.hid (ho7.low HS6.out.bel.size)
          clear hS7 hv7 hb7 ho7)
       | (go_at_call 61;(with_reducible refine (HPUT.out w7 pa pm pc HS7.out HO7.out).mono ?_);rintro e w8 ⟨rfl,ht8,hr8⟩
          have x8:=ht8.cell x7 HS7.out.st.ne
          have x8':=ht8.cell x7' (fun e=>by have e:w.heap.size=rd∨w.heap.size=rl:=e;omega))
       | fail)
     have HT8:=Lib.hid ht8
     have HR8:=Lib.hid hr8
     clear ht8 hr8 x8 x8' x7 x7' x6 x6' f5 f6
     go_wp2_with fail
     go_ret
     rw [H3.out]
     exact ⟨rfl,(Touch.of_below HS7.out.bel).trans HT8.out,HR8.out⟩
theorem get_lt32 {w:World} {bd bl:Nat} {D:Dsk} (h:IsDisk w bd bl D) (p:Int):(D.get p).1<4294967296:=by
 unfold Dsk.get
 split
 · show 0<4294967296;decide
 · rename_i hp
   have hp2:¬ p<0∧¬ (D.secs.length:Int) - 12<p:=⟨fun e=>hp (.inl e),fun e=>hp (.inr e)⟩
   exact newestW_lt h _ (by omega)
def recK (c:StC) (D:Dsk) (who:Int):StR × Int:=if who<0∨(c.s.length:Int)≤who then (⟨0,false,[]⟩,1) else ((rcD c.r.length D who.toNat).1,0)
theorem recK_len {c:StC} (hm:c.may) (D:Dsk) (who:Int):(recK c D who).1.bid.length≤1000:=by
 unfold recK
 split
 · show 0≤1000;decide
 · have h:=rc_bid c.r.length D who.toNat
   unfold bidB at h
   generalize (rcD c.r.length D who.toNat).1.bid=l at h ⊢
   rw [okB_eq,Bool.or_eq_true,decide_eq_true_eq,decide_eq_true_eq] at h
   show l.length≤1000
   rcases h with h | h
   · omega
   · obtain ⟨_,h8,hl,_⟩:=h
     omega
theorem rec_all (bs bd bl:Nat) (x:StA) (c:StC) (D:Dsk) (who:Int) (w:World) (h:IsStore w bs bd bl x c D) (hs:c.s.length≤1000) (hr:c.r.length≤1000000) :
   Calls Tryz.prog 30 #[.pointer (some ⟨bs,0,none⟩),.int .i64 who] w fun e w' => ∃ a,e=.returned (.tuple #[.agg #[.int .u32 (recK c D who).1.seq,.bool (recK c D who).1.stands,.slice a (recK c D who).1.bid.length (recK c D who).1.bid.length],.int .i64 (recK c D who).2])∧Below w.heap.size w w'∧NwI w.heap.size w' a (recK c D who).1.bid:=by
 by_cases hw:who<0∨(c.s.length:Int)≤who
 · have e:recK c D who=(⟨0,false,[]⟩,1):=if_pos hw
   rw [e]
   refine (record_bad bs bd bl x c D who w h hw).mono ?_
   rintro e w' ⟨rfl,hb⟩
   exact ⟨none,rfl,hb,0,World.ownsRow_nil w' w.heap.size 3 1⟩
 · have e:recK c D who=((rcD c.r.length D who.toNat).1,0):=if_neg hw
   rw [e]
   obtain ⟨k,rfl⟩:∃ k:Nat,who=(k:Int):=⟨who.toNat,by omega⟩
   refine (record_ok bs bd bl x c D k w h (by omega) hs hr).mono ?_
   rintro e w' ⟨a,rfl,hb,hn⟩
   exact ⟨a,rfl,hb,hn⟩
theorem rrec_all (ts B rd rl rc:Nat) (x:StA) (c:StC) (R:Dsk) (who:Int) (w:World) (h:IsRS w ts B rd rl rc x c R) (hs:c.s.length≤1000) (hr:c.r.length≤1000000) :
   Calls Tryz.prog 31 #[.pointer (some ⟨ts,0,none⟩),.int .i64 who] w fun e w' => ∃ (a:Option Addr) (m c':Nat),e=.returned (.tuple #[.agg #[.int .u32 (recK c R who).1.seq,.bool (recK c R who).1.stands,.slice a m c'],.int .i64 (recK c R who).2])∧Below w.heap.size w w'∧IsI w' a m c' (recK c R who).1.bid:=by
 by_cases hw:who<0∨(c.s.length:Int)≤who
 · have e:recK c R who=(⟨0,false,[]⟩,1):=if_pos hw
   rw [e]
   refine (rrec_bad ts B rd rl rc x c R who w h hw).mono ?_
   rintro e w' ⟨rfl,hb⟩
   exact ⟨none,0,0,rfl,hb,IsI.nil w'⟩
 · have e:recK c R who=((rcD c.r.length R who.toNat).1,0):=if_neg hw
   rw [e]
   obtain ⟨k,rfl⟩:∃ k:Nat,who=(k:Int):=⟨who.toNat,by omega⟩
   exact rrec_ok ts B rd rl rc x c R k w h (by omega) hs hr
theorem rset_all (ts B rd rl rc:Nat) (x:StA) (c:StC) (R:Dsk) (who:Int) (sq:Nat) (st:Bool) (a:Option Addr) (n cap:Nat) (l:List Int) (k:Int) (w:World) (h:IsRS w ts B rd rl rc x c R) (hI:IsI w a n cap l) (hsq:sq<4294967296) (hs:c.s.length≤8) (hr:c.r.length≤1000000) (hk:R.fine k) (hk2:k≤1000000000000000) (hlt:∀ i,i<c.s.length→(R.get ((12*(2+i):Nat):Int)).1<4294967296) :
   Calls Tryz.prog 27 #[.pointer (some ⟨ts,0,none⟩),.int .i64 who,.agg #[.int .u32 sq,.bool st,.slice a n cap]] w fun e w' => e=.returned (.int .i64 (setD c.s.length c.r.length R who ⟨sq,st,l⟩).1)∧Touch (fun k=>k=rd∨k=rl) w w'∧IsRef w' B rd rl rc (setD c.s.length c.r.length R who ⟨sq,st,l⟩).2:=by
 by_cases hw:who<0∨(c.s.length:Int)≤who
 · have e:setD c.s.length c.r.length R who ⟨sq,st,l⟩=(1,R):=if_pos hw
   rw [e]
   refine (rset_bad ts B rd rl rc x c R who sq st a n cap w h hw).mono ?_
   rintro e w' ⟨rfl,hb⟩
   exact ⟨rfl,Touch.of_below hb,h.disk.below hb⟩
 · obtain ⟨k',rfl⟩:∃ k:Nat,who=(k:Int):=⟨who.toNat,by omega⟩
   exact rset_ok ts B rd rl rc x c R k' sq st a n cap l k w h hI hsq (by omega) hs hr hk hk2 (hlt k' (by omega))
set_option maxHeartbeats 8000000 in
theorem twinR_tw (sq:Nat) (st:Bool) (a:Option Addr) (n cap:Nat) (l:List Int) (w:World) (hI:IsI w a n cap l) (hl:l.length≤1000000) :
   Calls Tryz.prog 25 #[.agg #[.int .u32 sq,.bool st,.slice a n cap]] w fun e w' => ∃ g,e=.returned (.agg #[.int .u32 sq,.bool st,.slice (some ⟨g,0,none⟩) l.length (l.length+1)])∧Below w.heap.size w w'∧TwI w' g l∧w.heap.size≤g:=by
 obtain rfl:=hI.1
 obtain ⟨hb0,m0,m1⟩:=alloc2_facts w (.cells #[.int .u32 sq,.bool st,.slice a l.length cap] 60 (0,0)) (.cells #[.int .u32 0,.bool false,.slice none 0 0] 60 (0,0))
 have HI:=Lib.hid (hI.below hb0)
 clear hI
 go_enter Tryz.func25,Tryz.ntmps25
 go_wp2_with fail
 generalize ((w.alloc (.cells #[.int .u32 sq,.bool st,.slice a l.length cap] 60)).alloc (.cells #[.int .u32 0,.bool false,.slice none 0 0] 60))=W at hb0 m0 m1 HI ⊢
 have c0:W.cell? ⟨w.heap.size,0,none⟩=some (.int .u32 sq):=by rw [cell_of_block m0];rfl
 have c1:W.cell? ⟨w.heap.size,1,none⟩=some (.bool st):=by rw [cell_of_block m0];rfl
 have c2:W.cell? ⟨w.heap.size,2,none⟩=some (.slice a l.length cap):=by rw [cell_of_block m0];rfl
 have HB:=Lib.hid hb0
 have M1:=Lib.hid m1
 have hd0:=(Below.refl W.heap.size W).drew
 have k0:W.drew.cell? ⟨w.heap.size,0,none⟩=some (.int .u32 sq):=c0
 have k1:W.drew.cell? ⟨w.heap.size,1,none⟩=some (.bool st):=c1
 have k2:W.drew.cell? ⟨w.heap.size,2,none⟩=some (.slice a l.length cap):=c2
 clear hb0 m0 m1
 go_region_law (first
   | (go_simp;go_at_call 13;refine (twinI_ex a l.length cap l W.drew (by omega) (HI.out.below hd0)).mono ?_;rintro e w1 ⟨g,rfl,hb1,htg,hgg⟩
      have hB1:Below W.heap.size W w1:=hd0.trans (hb1.mono hd0.size)
      have x0:w1.cell? ⟨w.heap.size,0,none⟩=some (.int .u32 sq):=cell_later hB1 c0
      have x1:w1.cell? ⟨w.heap.size,1,none⟩=some (.bool st):=cell_later hB1 c1
      have x2:w1.cell? ⟨w.heap.size,2,none⟩=some (.slice a l.length cap):=cell_later hB1 c2
      have vm:=below_heap hB1 M1.out (lt_of_heap M1.out)
      have y0:w1.cell? ⟨w.heap.size+1,0,none⟩=some (.int .u32 0):=(by rw [cell_of_block vm];rfl)
      have y1:w1.cell? ⟨w.heap.size+1,1,none⟩=some (.bool false):=(by rw [cell_of_block vm];rfl)
      have y2:w1.cell? ⟨w.heap.size+1,2,none⟩=some (.slice none 0 0):=(by rw [cell_of_block vm];rfl)
      have yf0:w1.frozen? ⟨w.heap.size+1,0,none⟩=false:=blk_free vm
      have yf1:w1.frozen? ⟨w.heap.size+1,1,none⟩=false:=blk_free vm
      have yf2:w1.frozen? ⟨w.heap.size+1,2,none⟩=false:=blk_free vm
      clear hb1)
   | fail)
 all_goals
   obtain ⟨s1,s2⟩:=set3_same (v0:=.int .u32 (sq:Int)) (v1:=.bool st) (v2:=.slice (some ⟨g,0,none⟩) l.length (l.length+1)) vm
   have hWs:w.heap.size+1<W.heap.size:=lt_of_heap M1.out
   have hg2:W.heap.size≤g:=hgg
   have HE:=Lib.hid (And.intro (HB.out.trans ((hB1.mono HB.out.size).trans (s2.below (Nat.le_trans HB.out.size hB1.size) (fun k hk e=>by omega)))) (show TwI _ g l from s2.heap htg (by omega)))
   clear hB1 x0 x1 x2 y0 y1 y2 yf0 yf1 yf2 htg hd0 k0 k1 k2 c0 c1 c2
   generalize (((w1.setCell ⟨w.heap.size+1,0,none⟩ (.int .u32 (sq:Int))).setCell ⟨w.heap.size+1,1,none⟩ (.bool st)).setCell ⟨w.heap.size+1,2,none⟩ (.slice (some ⟨g,0,none⟩) l.length (l.length+1)))=w2 at s1 s2 HE ⊢
   have q0:w2.cell? ⟨w.heap.size+1,0,none⟩=some (.int .u32 (sq:Int)):=by rw [cell_of_block s1];rfl
   have q1:w2.cell? ⟨w.heap.size+1,1,none⟩=some (.bool st):=by rw [cell_of_block s1];rfl
   have q2:w2.cell? ⟨w.heap.size+1,2,none⟩=some (.slice (some ⟨g,0,none⟩) l.length (l.length+1)):=by rw [cell_of_block s1];rfl
   clear s2 vm
   have s1':=s1
   clear s1
   go_wp2_with fail
   refine bodyPost_ret (results_cell rfl _ _ (w.heap.size+1) 0 rfl [.int .u32 (sq:Int),.bool st,.slice (some ⟨g,0,none⟩) l.length (l.length+1)] _ (rangeAt_row s1') Tryz.underlying60 rfl info_rec) rfl ?_
   exact ⟨g,rfl,HE.out.1,HE.out.2,by omega⟩
set_option maxHeartbeats 4000000 in
theorem leftR_any (sq g:Nat) (st:Bool) (a:Option Addr) (n cap:Nat) (l:List Int) (w:World) (hI:IsI w a n cap l) (hl:l.length≤1000000) (ht:TwI w g l) :
   Calls Tryz.prog 28 #[.agg #[.int .u32 sq,.bool st,.slice (some ⟨g,0,none⟩) l.length (l.length+1)],.agg #[.int .u32 sq,.bool st,.slice a n cap]] w fun e w' => e=.returned (.bool true)∧Below w.heap.size w w':=by
 obtain rfl:=hI.1
 obtain ⟨hb0,m0,m1⟩:=alloc2_facts w (.cells #[.int .u32 sq,.bool st,.slice (some ⟨g,0,none⟩) l.length (l.length+1)] 60 (0,0)) (.cells #[.int .u32 sq,.bool st,.slice a l.length cap] 60 (0,0))
 have HI:=Lib.hid (hI.below hb0)
 have HT:Hid (TwI _ g l):=Lib.hid (below_heap hb0 ht (lt_of_heap ht))
 have HB:=Lib.hid hb0
 clear hI ht hb0
 go_enter Tryz.func28,Tryz.ntmps28
 go_wp2_with fail
 generalize ((w.alloc (.cells #[.int .u32 sq,.bool st,.slice (some ⟨g,0,none⟩) l.length (l.length+1)] 60)).alloc (.cells #[.int .u32 sq,.bool st,.slice a l.length cap] 60))=W at m0 m1 HI HT HB ⊢
 have c0:W.cell? ⟨w.heap.size,0,none⟩=some (.int .u32 sq):=by rw [cell_of_block m0];rfl
 have c1:W.cell? ⟨w.heap.size,1,none⟩=some (.bool st):=by rw [cell_of_block m0];rfl
 have c2:W.cell? ⟨w.heap.size,2,none⟩=some (.slice (some ⟨g,0,none⟩) l.length (l.length+1)):=by rw [cell_of_block m0];rfl
 have d0:W.cell? ⟨w.heap.size+1,0,none⟩=some (.int .u32 sq):=by rw [cell_of_block m1];rfl
 have d1:W.cell? ⟨w.heap.size+1,1,none⟩=some (.bool st):=by rw [cell_of_block m1];rfl
 have d2:W.cell? ⟨w.heap.size+1,2,none⟩=some (.slice a l.length cap):=by rw [cell_of_block m1];rfl
 have e1:((sq:Int) == (sq:Int))=true:=by simp
 have e2:(st == st)=true:=by simp
 clear m0 m1
 go_wp2_with fail
 refine (leftI_any g a l.length cap l _ (by omega) HI.out HT.out.twin).mono ?_;rintro e w1 ⟨rfl,hb1⟩
 have HB1:=Lib.hid (HB.out.trans (hb1.mono HB.out.size))
 clear hb1
 go_wp2_with fail
 go_ret
 exact ⟨rfl,HB1.out⟩
def CfP (B rd rl:Nat) (w:World) (y:StA) (c:StC):Prop:=IsCf w (fun k=>B≤k∧TyC w k∧¬ (k=rd∨k=rl)) y c
theorem CfP.touch {B rd rl:Nat} {S:Nat→Prop} {w w':World} {y:StA} {c:StC} (h:CfP B rd rl w y c) (ht:Touch S w w') (hs:∀ k,B≤k→TyC w k→¬ (k=rd∨k=rl)→¬ S k):CfP B rd rl w' y c :=
 (IsCf.touch h ht (fun k hk=>hs k hk.1 hk.2.1 hk.2.2)).imp (fun k hk=>⟨hk.1,hk.2.1.touch ht (hs k hk.1 hk.2.1 hk.2.2),hk.2.2⟩)
theorem CfP.below {B rd rl:Nat} {w w':World} {y:StA} {c:StC} (h:CfP B rd rl w y c) (hb:Below w.heap.size w w'):CfP B rd rl w' y c:=h.touch (Touch.of_below (S:=fun _=>False) hb) (fun _ _ _ _ h=>h)
theorem CfP.of {B B' rd rl:Nat} {w:World} {y:StA} {c:StC} (h:CfT B w y c) (hB:B'≤B) (h1:rd<B) (h2:rl<B):CfP B' rd rl w y c:=IsCf.imp h (fun k hk=>⟨Nat.le_trans hB hk.1,hk.2,fun e=>by have:=hk.1;omega⟩)
structure StB (W w:World) (bd bl rd rl rc bs ts:Nat) (x y:StA) (c:StC) (D R:Dsk):Prop where
 ps:IsStore w bs bd bl x c D
 rs:IsRS w ts W.heap.size rd rl rc y c R
 may:mayB c=true
 px:CfP W.heap.size rd rl w x c
 py:CfP W.heap.size rd rl w y c
theorem StB.after {W w w':World} {bd bl rd rl rc bs ts:Nat} {x y:StA} {c:StC} {D R:Dsk} (h:StB W w bd bl rd rl rc bs ts x y c D R) (hb:Below w.heap.size w w'):StB W w' bd bl rd rl rc bs ts x y c D R :=
 ⟨h.ps.below hb,h.rs.below hb,h.may,h.px.below hb,h.py.below hb⟩
theorem TyC.noD {w:World} {bd bl k:Nat} {D:Dsk} (h:TyC w k) (hd:IsDisk w bd bl D):¬ (k=bd∨k=bl):=by
 obtain ⟨cur,t,fz,h1,h2⟩:=h
 rcases h2 with rfl | rfl | rfl
 · exact diskNe hd h1 (by decide) (by decide)
 · exact diskNe hd h1 (by decide) (by decide)
 · exact diskNe hd h1 (by decide) (by decide)
theorem IsStore.away {w w':World} {S:Nat→Prop} {B rd rl bs bd bl:Nat} {x:StA} {c:StC} {D:Dsk} (h:IsStore w bs bd bl x c D) (hp:CfP B rd rl w x c) (ht:Touch S w w') (h1:¬ S bs) (h2:¬ S bd) (h3:¬ S bl) (h4:∀ k,B≤k→TyC w k→¬ (k=rd∨k=rl)→¬ S k):IsStore w' bs bd bl x c D :=
 ⟨ht.heap h.cells h1,h.disk.touch ht h2 h3,((h.cfg.both hp).touch ht (fun k hk=>h4 k hk.2.1 hk.2.2.1 hk.2.2.2)).imp (fun k hk=>hk.1),h.ne⟩
theorem IsRS.away {w w':World} {S:Nat→Prop} {B B' ts rd rl rc:Nat} {x:StA} {c:StC} {R:Dsk} (h:IsRS w ts B rd rl rc x c R) (hp:CfP B' rd rl w x c) (ht:Touch S w w') (h1:¬ S ts) (h2:NoRef w S) (h4:∀ k,B'≤k→TyC w k→¬ (k=rd∨k=rl)→¬ S k):IsRS w' ts B rd rl rc x c R :=
 ⟨ht.heap h.cells h1,h.disk.touch ht h2,((h.cfg.both hp).touch ht (fun k hk=>h4 k hk.2.1 hk.2.2.1 hk.2.2.2)).imp (fun k hk=>hk.1),h.ne⟩
theorem StB.first {W w w1:World} {bd bl rd rl rc bs ts:Nat} {x y:StA} {c:StC} {D R D':Dsk} (h:StB W w bd bl rd rl rc bs ts x y c D R) (h1:Touch (fun k=>k=bd∨k=bl) w w1) (hd:IsDisk w1 bd bl D'):StB W w1 bd bl rd rl rc bs ts x y c D' R :=
 ⟨h.ps.put h1 hd,h.rs.away h.py h1 (diskNe h.ps.disk h.rs.cells (by decide) (by decide)) (noRefD h.ps.disk) (fun k _ hk _=>hk.noD h.ps.disk),h.may,h.px.touch h1 (fun k _ hk _=>hk.noD h.ps.disk),h.py.touch h1 (fun k _ hk _=>hk.noD h.ps.disk)⟩
theorem StB.second {W w w1:World} {bd bl rd rl rc bs ts:Nat} {x y:StA} {c:StC} {D R R':Dsk} (h:StB W w bd bl rd rl rc bs ts x y c D R) (h1:Touch (fun k=>k=rd∨k=rl) w w1) (hd:IsRef w1 W.heap.size rd rl rc R'):StB W w1 bd bl rd rl rc bs ts x y c D R' :=
 ⟨h.ps.away h.px h1 (refNe h.rs.disk h.ps.cells (by decide) (by decide)) (refNe h.rs.disk h.ps.disk.cells (by decide) (by decide)) (refNe h.rs.disk h.ps.disk.row (by decide) (by decide)) (fun k _ _ hk=>hk),h.rs.put h1 hd,h.may,h.px.touch h1 (fun k _ _ hk=>hk),h.py.touch h1 (fun k _ _ hk=>hk)⟩
theorem StB.kept {W w w1:World} {bd bl rd rl rc bs ts:Nat} {x y:StA} {c:StC} {D R:Dsk} (h:StB W w bd bl rd rl rc bs ts x y c D R) (h1:Touch (BkS w W.heap.size) w w1):StB W w1 bd bl rd rl rc bs ts x y c D R :=
 ⟨h.ps.away h.px h1 (bkS_not h.ps.cells (by decide) (fun κ=>by cases κ <;> decide)) (bkS_not h.ps.disk.cells (by decide) (fun κ=>by cases κ <;> decide)) (bkS_not h.ps.disk.row (by decide) (fun κ=>by cases κ <;> decide)) (fun k _ hk _=>hk.noBk),
  h.rs.away h.py h1 (bkS_not h.rs.cells (by decide) (fun κ=>by cases κ <;> decide)) noRefK (fun k _ hk _=>hk.noBk),h.may,h.px.touch h1 (fun k _ hk _=>hk.noBk),h.py.touch h1 (fun k _ hk _=>hk.noBk)⟩
def Prs (W w:World) (bd bl rd rl rc:Nat) (s t:Value) (D R:Dsk):Prop :=
 (s=.pointer none∧t=.pointer none)∨∃ (bs ts:Nat) (x y:StA) (c:StC),s=.pointer (some ⟨bs,0,none⟩)∧t=.pointer (some ⟨ts,0,none⟩)∧StB W w bd bl rd rl rc bs ts x y c D R
theorem Prs.after {W w w':World} {bd bl rd rl rc:Nat} {s t:Value} {D R:Dsk} (h:Prs W w bd bl rd rl rc s t D R) (hb:Below w.heap.size w w'):Prs W w' bd bl rd rl rc s t D R:=by
 rcases h with h | ⟨bs,ts,x,y,c,h1,h2,h3⟩
 · exact .inl h
 · exact .inr ⟨bs,ts,x,y,c,h1,h2,h3.after hb⟩
theorem Prs.both {W w w1 w2:World} {bd bl rd rl rc:Nat} {s t:Value} {D R D' R':Dsk} (h:Prs W w bd bl rd rl rc s t D R) (h1:Touch (fun k=>k=bd∨k=bl) w w1) (hd:IsDisk w1 bd bl D') (h2:Touch (fun k=>k=rd∨k=rl) w1 w2) (hr:IsRef w2 W.heap.size rd rl rc R'):Prs W w2 bd bl rd rl rc s t D' R':=by
 rcases h with h | ⟨bs,ts,x,y,c,e1,e2,h3⟩
 · exact .inl h
 · exact .inr ⟨bs,ts,x,y,c,e1,e2,(h3.first h1 hd).second h2 hr⟩
theorem IsRef.lowr {w:World} {B B' rd rl rc:Nat} {R:Dsk} (h:IsRef w B rd rl rc R) (hB:B'≤B):IsRef w B' rd rl rc R:=by
 obtain ⟨gs,g1,g2,g3,g4⟩:=h.row
 exact ⟨Nat.le_trans hB h.le,h.pos,h.most,h.secs,h.cells,gs,g1,owns_low g2 hB,fun i hi hi' => ⟨(g3 i hi hi').1,Nat.le_trans hB (g3 i hi hi').2⟩,g4⟩
theorem QSt.copied {W w w3 w4:World} {bd bl rd rl rc bk c cd cl sd sl sc:Nat} {D R D' R':Dsk} (h:QSt W w bd bl rd rl rc bk c D R) (hb3:Below w.heap.size w w3) (k1:w.heap.size≤cd) (k2:w.heap.size≤cl) (hc3:IsDisk w3 cd cl D')
   (hb4:Below w3.heap.size w3 w4) (hr4:IsRef w4 w3.heap.size sd sl sc R') (hs:Same D' R'):QSt W w4 cd cl sd sl sc bk c D' R':=by
 have h0:=h.below.size
 have h3:=hb3.size
 have hB:=h.book.andTop
 have hlt:=hr4.lt
 have hle:=hr4.le
 refine ⟨(h.below.trans (hb3.mono h0)).trans (hb4.mono (by omega)),hc3.touch (Touch.of_below (S:=fun _=>False) hb4) id id,⟨by omega,by omega⟩,hr4.lowr (by omega),hs,?_⟩
 refine ((hB.below hb3).below hb4).mono (fun k hk=>⟨?_,fun e => ?_⟩) (Nat.le_refl _)
 · have:=hb4.size;omega
 · rcases e with e | e <;> omega
def BIo (B:Nat) (w:World) (vs:List Value) (s:List (List Int)):Prop:=vs.length=s.length∧∀ i (h:i<s.length),∃ a c,vs[i]?=some (.slice a s[i].length c)∧w.ownsRow B 3 1 (.slice a s[i].length c) s[i].length (icells s[i])
theorem BIo.nil (B:Nat) (w:World):BIo B w [] []:=⟨rfl,fun i h=>by simp at h⟩
theorem BIo.touch {B:Nat} {S:Nat→Prop} {w w':World} {vs:List Value} {s:List (List Int)} (h:BIo B w vs s) (ht:Touch S w w') (hs:∀ k,B≤k→(∃ cur,w.heap[k]?=some (.cells cur 3 (0,0)))→¬ S k):BIo B w' vs s :=
 ⟨h.1,fun i hi=>by
   obtain ⟨a,c,h1,h2⟩:=h.2 i hi
   exact ⟨a,c,h1,owns_touch h2 ht (fun k hk=>hs k (owns_base h2 k hk) (owns_block h2 hk))⟩⟩
theorem BIo.snoc {B:Nat} {w:World} {vs:List Value} {s:List (List Int)} (h:BIo B w vs s) {a:Option Addr} {c:Nat} {l:List Int} (hl:w.ownsRow B 3 1 (.slice a l.length c) l.length (icells l)):BIo B w (vs ++ [.slice a l.length c]) (s ++ [l]):=by
 refine ⟨by simp [h.1],fun i hi => ?_⟩
 by_cases hlt:i<s.length
 · obtain ⟨a',c',h1,h2⟩:=h.2 i hlt
   refine ⟨a',c',?_,?_⟩
   · rw [List.getElem?_append_left (by rw [h.1];exact hlt),List.getElem_append_left hlt];exact h1
   · rw [List.getElem_append_left hlt];exact h2
 · have:i=s.length:=by simp at hi;omega
   subst this
   refine ⟨a,c,?_,?_⟩
   · rw [List.getElem?_append_right (by rw [h.1];exact Nat.le_refl _),h.1,Nat.sub_self,List.getElem_append_right (Nat.le_refl _)];simp
   · rw [List.getElem_append_right (Nat.le_refl _)];simpa using hl
theorem BIo.iiv {B:Nat} {w:World} {vs:List Value} {s:List (List Int)} (h:BIo B w vs s):IIv w (fun _=>True) vs s :=
 ⟨h.1,fun i hi=>by
   obtain ⟨a,c,h1,h2⟩:=h.2 i hi
   exact ⟨a,_,c,h1,isI_of_owns h2 rfl,fun b off e _=>trivial⟩⟩
theorem ii_of_owns {B:Nat} {w:World} {a:Option Addr} {n c:Nat} {vs:List Value} {s:List (List Int)} (ho:w.ownsRow B 22 1 (.slice a n c) n vs) (hn:n=s.length) (hv:BIo B w vs s):IsIIp w (fun _=>True) a n c vs s:=by
 subst hn
 refine ⟨rfl,?_,?_,hv.iiv,?_⟩
 · rcases ho.2 with ⟨h,h0⟩ | ⟨g,cap,cur,h,_,_,hnc,hcm,_⟩
   · obtain ⟨_,h1,h2⟩:=Value.slice.inj h;omega
   · cases h;exact hnc
 · rcases ho.2 with ⟨h,h0⟩ | ⟨g,cap,cur,h,_,_,hnc,hcm,_⟩
   · obtain ⟨_,h1,h2⟩:=Value.slice.inj h;rw [h2];decide
   · cases h;exact hcm
 · rcases ho.2 with ⟨h,h0⟩ | ⟨g,cap,cur,h,hb,hg,_⟩
   · exact .inl (List.eq_nil_of_length_eq_zero h0)
   · cases h
     refine .inr ⟨g,0,rfl,trivial,lt_of_heap hg,fun i hi => ?_⟩
     rw [Nat.zero_add]
     exact cells_of_owns ho i _ (List.getElem?_eq_getElem hi)
structure RkJ (B nm:Nat) (ra:Option Addr) (rn rc:Nat) (ov:Value) (r:List Int) (it:Nat) (R:Dsk) (w1:World) (j:Nat) (ba:Option Addr) (bc:Nat) (vs:List Value) (W:World):Prop where
 bel:Below B w1 W
 m:W.heap[nm]?=some (.cells #[.slice ra rn rc,.slice ba j bc,ov] 84 (0,0))
 row:W.ownsRow B 22 1 (.slice ba j bc) j vs
 els:BIo B W vs (bidsK it R j)
 rr:W.ownsRow B 3 1 (.slice ra rn rc) rn (icells r)
theorem RkJ.step {B nm rn rc it j bc c' c8:Nat} {ra ba a b8:Option Addr} {ov:Value} {r l:List Int} {R:Dsk} {w1 wr w2 w8:World} {vs:List Value} {o1 o2:Obj} (h:RkJ B nm ra rn rc ov r it R w1 j ba bc vs wr) (hB:B≤wr.heap.size) (hnm:B≤nm) (hb2:Below wr.heap.size wr w2)
   (hx:w2.ownsRow wr.heap.size 3 1 (.slice a l.length c') l.length (icells l)) (hl:(rcD it R j).1.bid=l) (hg8:((w2.alloc o1).alloc o2).grownBy w8 (Value.slice ba j bc).ownBlock) (ho8:w8.ownsRow B 22 1 (.slice b8 (j+1) c8) (j+1) (vs ++ [.slice a l.length c'])) :
   w8.heap[nm]?=some (.cells #[.slice ra rn rc,.slice ba j bc,ov] 84 (0,0))∧RkJ B nm ra rn rc ov r it R w1 (j+1) b8 c8 (vs ++ [.slice a l.length c']) (w8.setCell ⟨nm,1,none⟩ (.slice b8 (j+1) c8)):=by
 have ho2:=owns_below h.row hb2
 have hA:Below wr.heap.size wr ((w2.alloc o1).alloc o2):=(hb2.alloc hb2.size _).alloc (Nat.le_trans hb2.size (by simp)) _
 have h08:Touch (fun k=>(Value.slice ba j bc).ownBlock=some k) wr w8:=(Touch.of_below (S:=fun k=>(Value.slice ba j bc).ownBlock=some k) hA).grown hg8 (fun k hk=>.inl hk)
 have h28:Touch (fun k=>(Value.slice ba j bc).ownBlock=some k) w2 w8:=(((Touch.refl (fun k=>(Value.slice ba j bc).ownBlock=some k) w2).alloc _).alloc _).grown hg8 (fun k hk=>.inl hk)
 have hm8:w8.heap[nm]?=some (.cells #[.slice ra rn rc,.slice ba j bc,ov] 84 (0,0)):=h08.heap h.m (fun e=>by
   obtain ⟨cur,hc⟩:=owns_block h.row e
   rw [h.m] at hc
   exact absurd (Obj.cells.inj (Option.some.inj hc)).2.1 (by decide))
 have hnot:∀ k,(∃ cur,w2.heap[k]?=some (.cells cur 3 (0,0)))→¬ (Value.slice ba j bc).ownBlock=some k:=fun k ⟨cur,hc⟩ e=>by
   obtain ⟨c2,h2⟩:=owns_block ho2 e
   rw [hc] at h2
   exact absurd (Obj.cells.inj (Option.some.inj h2)).2.1 (by decide)
 have h8X:=touch_set w8 nm 1 (.slice b8 (j+1) c8)
 have hnot8:∀ k e (cur:Array Value),w8.heap[k]?=some (.cells cur e (0,0))→e≠84→¬ k=nm:=fun k e cur hc hne he=>by
   rw [he,hm8] at hc
   exact hne (Obj.cells.inj (Option.some.inj hc)).2.1.symm
 have hr2:=owns_below h.rr hb2
 have he8:BIo B w8 (vs ++ [.slice a l.length c']) (bidsK it R j ++ [l]):=((h.els.touch (Touch.of_below (S:=fun _=>False) hb2) (fun _ _ _ h=>h)).snoc (owns_low hx hB)).touch h28 (fun k _ hk=>hnot k hk)
 have hr8:=owns_touch hr2 h28 (fun k hk=>hnot k (owns_block hr2 hk))
 refine ⟨hm8,?_,?_,?_,?_,?_⟩
 · exact (h.bel.trans ((hA.mono hB))).grown hg8 (Nat.le_trans hB hA.size) (fun k hk=>owns_base h.row k hk) |>.setCell (p:=⟨nm,1,none⟩) hnm _
 · rw [heap_setCell_same _ nm 1 _ _ _ hm8];rfl
 · exact owns_touch ho8 h8X (fun k hk=>by obtain ⟨cur,hc⟩:=owns_block ho8 hk;exact hnot8 k _ cur hc (by decide))
 · rw [bidsK_succ,hl]
   exact he8.touch h8X (fun k _ ⟨cur,hc⟩ => hnot8 k _ cur hc (by decide))
 · exact owns_touch hr8 h8X (fun k hk=>by obtain ⟨cur,hc⟩:=owns_block hr8 hk;exact hnot8 k _ cur hc (by decide))
def RMktQ (w:World) (c:StC) (R:Dsk) (e:Ending) (w':World):Prop :=
 ∃ x:MkA,e=.returned (.tuple #[.agg x.cells.toArray,.int .i64 (ordE c.s.length R)])∧Below w.heap.size w w'∧IsMk w' (fun _=>True) x (if ordE c.s.length R=0 then mktC c R else ⟨[],[],[]⟩)
theorem at2 (w:World) (o1:Obj) (v:Value) (e:TypeId):At ((w.alloc o1).alloc (.cells #[v] e)) (some ⟨w.heap.size+1,0,none⟩) [v]:=by
 have h:=At.one (w.alloc o1) v e
 rwa [show (w.alloc o1).heap.size=w.heap.size+1 by simp] at h
theorem bidsK_zero (it:Nat) (R:Dsk):bidsK it R 0=[]:=rfl
theorem info_mktR:(Tryz.prog.info? 84).map (·.size)=some 3:=by kernel_rfl
theorem mkt3_one (ra sa aa:Option Addr) (rn rc sn sc an ac:Nat):∀ v ∈ [Value.slice ra rn rc,.slice sa sn sc,.slice aa an ac],v.oneCell'=true:=by
 intro v hv
 simp at hv
 rcases hv with rfl | rfl | rfl <;> rfl
set_option maxHeartbeats 16000000 in
theorem rmarket_any (ts B rd rl rc:Nat) (x:StA) (c:StC) (R:Dsk) (w:World) (h:IsRS w ts B rd rl rc x c R) (hs:c.s.length≤8) (hr:c.r.length≤8) :
   Calls Tryz.prog 35 #[.pointer (some ⟨ts,0,none⟩)] w (RMktQ w c R):=by
 have hb0:Below w.heap.size w (w.alloc (.cells #[.slice none 0 0,.slice none 0 0,.slice none 0 0] 84)):=(Below.refl _ _).alloc (Nat.le_refl _) _
 have HV0:=Lib.hid (heap_new w (.cells #[.slice none 0 0,.slice none 0 0,.slice none 0 0] 84 (0,0)))
 have HS0:=Lib.hid (h.below hb0)
 have HB0:=Lib.hid hb0
 obtain ⟨E,hE⟩:∃ E,E=ordE c.s.length R:=⟨_,rfl⟩
 obtain ⟨L,hL⟩:∃ L,L=ordL c.s.length R:=⟨_,rfl⟩
 obtain ⟨M,hM⟩:∃ M,M=(if E=0 then mktC c R else ⟨[],[],[]⟩):=⟨_,rfl⟩
 have HQ:Hid (∀ (x:MkA) (w':World),Below w.heap.size w w'→IsMk w' (fun _=>True) x M→RMktQ w c R (.returned (.tuple #[.agg x.cells.toArray,.int .i64 E])) w'):=Lib.hid (fun x w' hb hm=>⟨x,by rw [hE],hb,by rw [← hE,← hM];exact hm⟩)
 have HORD:=Lib.hid (fun w1 (hb:IsRS w1 ts B rd rl rc x c R)=>(rorder_pub ts B rd rl rc x c R w1 hb (by omega)).mono (fun e w' hh=>by rw [← hE,← hL] at hh;exact hh))
 have HE:=Lib.hid hE
 have HM:=Lib.hid hM
 have HL:=Lib.hid hL
 clear h hb0 hE hM hL
 go_enter Tryz.func35,Tryz.ntmps35
 go_wp2_with fail
 generalize w.alloc (.cells #[.slice none 0 0,.slice none 0 0,.slice none 0 0] 84)=w0 at HS0 HV0 HB0 ⊢
 refine (HORD.out w0 HS0.out).mono ?_;rintro e w1 ⟨oa,om,oc,rfl,hb1,hi1⟩
 have HS1:=Lib.hid (HS0.out.below hb1)
 have HB1:=Lib.hid (HB0.out.trans (hb1.mono HB0.out.size))
 have HV1:=Lib.hid (below_heap hb1 HV0.out (lt_of_heap HV0.out))
 have HI1:=Lib.hid hi1
 have hn1:w.heap.size<w1.heap.size:=lt_of_heap HV1.out
 clear hb1 hi1 HORD HS0 HB0 HV0
 by_cases hE0:E=0
 · have d1:(E == 0)=true:=by rw [beq_iff_eq];exact hE0
   have d1':(E != 0)=false:=by rw [bne,d1];rfl
   have HM0:Hid (M=⟨c.r,bidsK c.r.length R c.s.length,L⟩):=Lib.hid (by rw [HM.out,if_pos hE0,HL.out];rfl)
   have HE0:=Lib.hid hE0
   clear hE0 HM
   have f1:=(HS1.out.f).2.1
   have hRI:=HS1.out.cfg.r.1
   have HRI:=Lib.hid hRI
   clear hRI
   have HIC:=Lib.hid (icells_length c.r)
   go_wp2_with (first
     | (at_builtin;refine wpList_append_any rowInt rfl (.const (.slice none 0 0)) (.tmp 23) rfl w1.heap.size (.slice none 0 0) 0 [] rfl (World.ownsRow_nil _ _ _ _) x.ra c.r.length x.rc (icells c.r) rfl (by rw [HIC.out];omega) (HRI.out.at') (icells_one _) (by unfold maxLen;omega) (by omega) (Nat.le_refl _) ?_;intro b2 c2 w2 hown2 hg2 hat2)
     | fail)
   have hz:(0:Nat)+c.r.length=c.r.length:=Nat.zero_add _
   rw [hz,List.nil_append] at hown2
   have hb2:Below w1.heap.size w1 w2:=(Below.refl _ _).grown hg2 (Nat.le_refl _) (by simp [Value.ownBlock])
   have hbx:Below w2.heap.size w2 (w2.alloc (.cells #[.slice b2 c.r.length c2,.slice none 0 0,.slice oa om oc] 84)):=(Below.refl _ _).alloc (Nat.le_refl _) _
   have hJ:RkJ w1.heap.size w2.heap.size b2 c.r.length c2 (.slice oa om oc) c.r c.r.length R w1 0 none 0 [] (w2.alloc (.cells #[.slice b2 c.r.length c2,.slice none 0 0,.slice oa om oc] 84)):=⟨hb2.trans (hbx.mono hb2.size),heap_new w2 _,World.ownsRow_nil _ _ _ _,by rw [bidsK_zero];exact BIo.nil _ _,owns_below hown2 hbx⟩
   have hnm:w1.heap.size≤w2.heap.size:=hb2.size
   obtain ⟨nm,hnmE⟩:∃ nm,nm=w2.heap.size:=⟨_,rfl⟩
   rw [← hnmE] at hJ hnm ⊢
   generalize w2.alloc (.cells #[.slice b2 c.r.length c2,.slice none 0 0,.slice oa om oc] 84)=w3 at hJ ⊢
   have HJ3:=Lib.hid hJ
   clear hz hown2 hg2 hat2 hb2 hbx hJ hnmE HIC HRI f1
   obtain ⟨N,hN⟩:∃ N,N=c.s.length:=⟨_,rfl⟩
   have HN:=Lib.hid hN
   clear hN
   go_loopw [7] (fun i wr => ∃ (j:Nat) (ba:Option Addr) (bc:Nat) (vs:List Value),j≤c.s.length∧i=.int .i64 j∧Hid (RkJ w1.heap.size nm b2 c.r.length c2 (.slice oa om oc) c.r c.r.length R w1 j ba bc vs wr)) (fun i _=>N - (intOf i).toNat)
   case atStart=>exact ⟨0,none,0,[],Nat.zero_le _,rfl,HJ3⟩
   case round =>
     clear HJ3
     obtain ⟨j,ba,bc,vs,hj,rfl,HJ⟩:=hrel
     have HSr:=Lib.hid (HS1.out.below HJ.out.bel)
     have f2:=(HSr.out.f).2.2
     have hwr:=HJ.out.bel.size
     by_cases hlt:j<c.s.length
     · have hd0:decide (j<c.s.length)=true:=decide_eq_true hlt
       go_wp2_with fail
       refine (rrecord_any ts B rd rl rc x c R j wr HSr.out (by omega) (by omega)).mono ?_;rintro e w4 ⟨xa,xm,xc,rfl,hb4,ho4⟩
       obtain ⟨X,hX⟩:∃ X,X=rcD c.r.length R j:=⟨_,rfl⟩
       have HX:Hid ((rcD c.r.length R j).1.bid=X.1.bid):=Lib.hid (by rw [hX])
       rw [← hX] at ho4 ⊢
       clear hX
       obtain ⟨⟨sq,st,l⟩,ok⟩:=X
       dsimp only at ho4 HX ⊢
       obtain ⟨rfl,ho4⟩:=ho4
       have HB4:=Lib.hid hb4
       have HO4:=Lib.hid ho4
       have HROW4:=Lib.hid (owns_below HJ.out.row hb4)
       have q1:∀ o,(w4.alloc o).cell? ⟨nm,1,none⟩=some (.slice ba j bc):=fun o=>cell_alloc (by rw [cell_of_block (below_heap hb4 HJ.out.m (lt_of_heap HJ.out.m))];rfl) o
       have hj9:j≤8:=by omega
       have hs4:=hb4.size
       clear hb4 ho4 f2
       go_wp2_with (first
         | (at_builtin;refine wpList_append_any rowII rfl _ _ rfl w1.heap.size _ j vs rfl ((HROW4.out.alloc _).alloc _) (some ⟨w4.heap.size+1,0,none⟩) 1 1 [.slice xa l.length xc] rfl rfl (at2 _ _ _ _) (one_cell _ rfl) (by unfold maxLen;omega) (by omega) (by simp;omega) ?_;intro b8 c8 w8 hown8 hg8 hat8
            obtain ⟨hm8,hJ8⟩:=RkJ.step HJ.out hwr hnm HB4.out HO4.out HX.out hg8 hown8
            have q3:w8.cell? ⟨nm,1,none⟩=some (.slice ba j bc):=by rw [cell_of_block hm8];rfl
            have q4:w8.frozen? ⟨nm,1,none⟩=false:=blk_free hm8
            have HJ8:=Lib.hid hJ8
            clear hown8 hg8 hat8 hm8 hJ8)
         | fail)
       go_wp2_with fail
       go_roundw
       case rel=>exact ⟨j+1,b8,c8,_,by omega,by go_num,HJ8⟩
       case measure=>have:=HN.out;simp [intOf];omega
     · have hjj:j=c.s.length:=by omega
       subst hjj
       have hv2:=below_heap (B:=w1.heap.size) HJ.out.bel HV1.out hn1
       have HV2:=Lib.hid hv2
       have HM2:=Lib.hid HJ.out.m
       clear hv2
       go_wp2_with (first
         | (refine wpList_load_mid rfl 84 (.tmp 6) rfl nm 0 rfl [.slice b2 c.r.length c2,.slice ba c.s.length bc,.slice oa om oc] _ (rangeAt_row HM2.out) Tryz.underlying84 rfl info_mktR ?_)
         | (refine wpList_store_whole rfl 84 (.tmp 2) (.tmp 50) rfl w.heap.size [.slice b2 c.r.length c2,.slice ba c.s.length bc,.slice oa om oc] _ _ HV2.out rfl rfl rfl info_mktR (mkt3_one _ _ _ _ _ _ _ _ _) ?_;intro w5 ht5 hg5)
         | fail)
       refine bodyPost_ret (results_cell_tmp rfl _ _ w.heap.size 0 rfl [.slice b2 c.r.length c2,.slice ba c.s.length bc,.slice oa om oc] _ (rangeAt_row hg5) Tryz.underlying84 rfl info_mktR) rfl ?_
       have hne:∀ k e (cur:Array Value),wr.heap[k]?=some (.cells cur e (0,0))→e≠84→¬ k=w.heap.size:=fun k e cur hc hne he=>by
         rw [he,HV2.out] at hc
         exact hne (Obj.cells.inj (Option.some.inj hc)).2.1.symm
       have hrr:=owns_touch HJ.out.rr ht5 (fun k hk=>by obtain ⟨cur,hc⟩:=owns_block HJ.out.rr hk;exact hne k _ cur hc (by decide))
       have hrow:=owns_touch HJ.out.row ht5 (fun k hk=>by obtain ⟨cur,hc⟩:=owns_block HJ.out.row hk;exact hne k _ cur hc (by decide))
       have hels:=HJ.out.els.touch ht5 (fun k _ ⟨cur,hc⟩ => hne k _ cur hc (by decide))
       have ho5:=(HI1.out.below HJ.out.bel)
       have ho6:=ho5.touch ht5 (ho5.off HV2.out (by rfl))
       have hbw:=HB1.out.trans (HJ.out.bel.mono HB1.out.size)
       have hend:=HQ.out ⟨b2,c.r.length,c2,ba,c.s.length,bc,vs,oa,om,oc⟩ w5 (hbw.trans (ht5.below hbw.size (fun k hk e=>by omega))) (by
         rw [HM0.out]
         exact ⟨⟨isI_of_owns hrr rfl,fun _ _ _ _=>trivial⟩,ii_of_owns hrow (bidsK_length _ _ _).symm hels,⟨ho6,fun _ _ _ _=>trivial⟩⟩)
       rw [HE0.out] at hend
       exact hend
 · have d1:(E == 0)=false:=by rw [beq_eq_false_iff_ne];exact hE0
   have d1':(E != 0)=true:=by rw [bne,d1];rfl
   have HM0:Hid (M=⟨[],[],[]⟩):=Lib.hid (by rw [HM.out,if_neg hE0])
   clear hE0 HM
   go_wp2_with (first
     | (refine wpList_store_whole rfl 84 (.tmp 2) (.tmp 17) rfl w.heap.size [.slice none 0 0,.slice none 0 0,.slice none 0 0] _ _ HV1.out rfl rfl rfl info_mktR (mkt3_one _ _ _ _ _ _ _ _ _) ?_;intro w4 ht4 hg4)
     | fail)
   refine bodyPost_ret (results_cell_tmp rfl _ _ w.heap.size 0 rfl [.slice none 0 0,.slice none 0 0,.slice none 0 0] _ (rangeAt_row hg4) Tryz.underlying84 rfl info_mktR) rfl ?_
   exact HQ.out MkA.zero w4 (HB1.out.trans (ht4.below HB1.out.size (fun k hk e=>by omega))) (by rw [HM0.out];exact IsMk.zero _ _)
section
open Go.ChangeShapes Go.WideShapes Go.ChangeAt Go.RowKit Go.Deep
theorem len5 {α:Type} (l:List α) (h:l.length=5):∃ a b c d e,l=[a,b,c,d,e]:=by
 match l,h with
 | [a,b,c,d,e],_=>exact ⟨a,b,c,d,e,rfl⟩
theorem len8 {α:Type} (l:List α) (h:l.length=8):∃ a b c d e f g i,l=[a,b,c,d,e,f,g,i]:=by
 match l,h with
 | [a,b,c,d,e,f,g,i],_=>exact ⟨a,b,c,d,e,f,g,i,rfl⟩
theorem piece {α:Type} (cs:List α) (k n:Nat):cs.drop k=(cs.drop k).take n ++ cs.drop (k+n):=by
 rw [← List.drop_drop,List.take_append_drop]
section
variable {H:Type} {enc:TypeId × Value→H} {W:World} {base b0:Nat} {held:Bool} {r:Reach}
theorem g_u8 {n:Nat} {t:TypeId} {cs:List Value} {y:DataW H × List MemPlace} (ht:Tryz.prog.underlying t=some (.int .u8)) (h:DataW.trod enc Tryz.prog W base (fun _=>true) held n t cs=some y):∃ x:UInt8,cs=[.int .u8 x.toNat]:=by
 obtain ⟨z,hz,_,hw⟩:=DataW.trod_int ht h
 obtain ⟨x,rfl,hx⟩:=u8_nat hw
 exact ⟨UInt8.ofNat x,by rw [show (UInt8.ofNat x).toNat=x by simp;omega];exact hz⟩
theorem g_u32 {n:Nat} {t:TypeId} {cs:List Value} {y:DataW H × List MemPlace} (ht:Tryz.prog.underlying t=some (.int .u32)) (h:DataW.trod enc Tryz.prog W base (fun _=>true) held n t cs=some y):∃ x:UInt32,cs=[.int .u32 x.toNat]:=by
 obtain ⟨z,hz,_,hw⟩:=DataW.trod_int ht h
 obtain ⟨x,rfl,hx⟩:=u32_nat hw
 exact ⟨UInt32.ofNat x,by rw [show (UInt32.ofNat x).toNat=x by simp;omega];exact hz⟩
theorem g_u64 {n:Nat} {t:TypeId} {cs:List Value} {y:DataW H × List MemPlace} (ht:Tryz.prog.underlying t=some (.int .u64)) (h:DataW.trod enc Tryz.prog W base (fun _=>true) held n t cs=some y):∃ x:UInt64,cs=[.int .u64 x.toNat]:=by
 obtain ⟨z,hz,_,hw⟩:=DataW.trod_int ht h
 obtain ⟨x,rfl,hx⟩:=u64_nat hw
 exact ⟨UInt64.ofNat x,by rw [show (UInt64.ofNat x).toNat=x by simp;omega];exact hz⟩
theorem g_bytes {n:Nat} {t e:TypeId} {cs:List Value} {y:DataW H × List MemPlace} (ht:Tryz.prog.underlying t=some (.slice e)) (he:Tryz.prog.underlying e=some (.int .u8)) (hc:Tryz.prog.cellsOf e=1)
   (h:DataW.trod enc Tryz.prog W base (fun _=>true) held n t cs=some y):∃ a n c l,cs=[.slice a n c]∧IsB W a n c l∧l.length≤Rows.uptoBulk y.1:=by
 have hs:∃ u,cs=[u]:=by
   rcases open_ints ht he hc h with ⟨hcs,_⟩ | ⟨x,l,c,zs,hcs,_⟩
   · exact ⟨_,hcs⟩
   · exact ⟨_,hcs⟩
 obtain ⟨u,rfl⟩:=hs
 obtain ⟨a,n,c,l,rfl,h1,h2⟩:=field_bytes ht he hc h
 exact ⟨a,n,c,l,rfl,h1,h2⟩
theorem g_ints {n:Nat} {t e:TypeId} {cs:List Value} {y:DataW H × List MemPlace} (ht:Tryz.prog.underlying t=some (.slice e)) (he:Tryz.prog.underlying e=some (.int .i64)) (hc:Tryz.prog.cellsOf e=1)
   (h:DataW.trod enc Tryz.prog W base (fun _=>true) held n t cs=some y):∃ a n c l,cs=[.slice a n c]∧IsI W a n c l∧l.length≤Rows.uptoBulk y.1:=by
 rcases open_ints ht he hc h with ⟨hcs,_⟩ | ⟨x,l,c,zs,hcs,_,hl,hm,hz,hy,hcell,hwz⟩
 · exact ⟨none,0,0,[],hcs,IsI.nil W,Nat.zero_le _⟩
 · have hL:=isI_of_ints (a:=some x) x zs rfl hl hm (by simpa using hz) hcell
   refine ⟨_,_,_,_,hcs,hL,?_⟩
   rw [hy,← hL.1]
   have hzc:zs.length=c:=by simpa using hz
   refine Nat.le_trans ?_ (bulks.slice_le _ _)
   simp [lits]
   omega
theorem g_bss {n:Nat} {t e e2:TypeId} {cs:List Value} {y:DataW H × List MemPlace} (ht:Tryz.prog.underlying t=some (.slice e)) (he:Tryz.prog.underlying e=some (.slice e2)) (he2:Tryz.prog.underlying e2=some (.int .u8)) (hc:Tryz.prog.cellsOf e=1) (hc2:Tryz.prog.cellsOf e2=1)
   (h:DataW.trod enc Tryz.prog W base (fun _=>true) held n t cs=some y) (K:Nat) (hK:Rows.uptoBulk y.1≤K):∃ a n c L,cs=[.slice a n c]∧IsBB W 0 a n c L∧L.length≤K∧∀ l ∈ L,l.length≤K:=by
 rcases open_slice1 ht hc h with ⟨hcs,_⟩ | ⟨x,len,cap,m,n',V,D,Pl,hcs,_,hl,hm,hmm,hy,hx⟩
 · exact ⟨none,0,0,[],hcs,⟨rfl,Nat.le_refl _,by decide,.inl rfl⟩,Nat.zero_le _,fun l hl=>by cases hl⟩
 · have hy1:y.1=.slice ((List.range len).map D) ((List.range (m - len)).map fun j=>D (len+j)):=congrArg Prod.fst hy
   rw [hy1] at hK
   have hel:=Nat.le_trans (bulks.slice_elems _ _) hK
   have hlen:len≤K:=by
     have:=Nat.le_trans (bulks.slice_le _ _) hK
     simp at this
     omega
   have hDi:∀ i,i<len→Rows.uptoBulk (D i)≤K:=fun i hi=>by
     have:=bulks.part_le (List.mem_map.2 ⟨i,List.mem_range.2 hi,rfl⟩:D i ∈ (List.range len).map D)
     omega
   have hlm:len≤m:=by rw [hmm];simp;exact hl
   by_cases h0:len=0
   · subst h0
     exact ⟨_,_,_,[],hcs,⟨rfl,Nat.zero_le _,hm,.inl rfl⟩,Nat.zero_le _,fun x hx=>by cases hx⟩
   obtain ⟨L,hL,hp⟩:=choose_list (α:=List UInt8) len (fun i l=>l.length≤K∧∃ u,W.cell? (x.add i)=some u∧ReadAs W 0 u l) (fun i hi=>by
     obtain ⟨q1,q2⟩:=hx i (by omega)
     obtain ⟨a,n,c,l,e1,h1,h2⟩:=g_bytes he he2 hc2 q2
     have hd:=hDi i hi
     simp at e1
     exact ⟨l,Nat.le_trans h2 hd,V i,q1,a,n,c,e1,h1,fun _ _ _ _=>Nat.zero_le _⟩)
   have h00:=(hp 0 (by omega)).2
   obtain ⟨u0,h00,_⟩:=h00
   rw [show x.add 0=x by simp [Addr.add]] at h00
   obtain ⟨hsp,hlt⟩:=addr_spot h00
   obtain ⟨b,off,spot⟩:=x
   simp at hsp
   subst hsp
   refine ⟨_,_,_,L,hcs,⟨hL.symm,by omega,hm,.inr ⟨b,off,rfl,Nat.zero_le _,hlt,fun i hi => ?_⟩⟩,by omega,fun l hl => ?_⟩
   · obtain ⟨u,h1,h2⟩:=(hp i hi).2
     rw [addr_add] at h1
     exact ⟨u,h1,h2⟩
   · obtain ⟨i,hi,rfl⟩:=List.getElem_of_mem hl
     exact (hp i hi).1
theorem g_i64 {n:Nat} {t:TypeId} {cs:List Value} {y:DataW H × List MemPlace} (ht:Tryz.prog.underlying t=some (.int .i64)) (h:DataW.trod enc Tryz.prog W base (fun _=>true) held n t cs=some y):∃ x:Int,cs=[.int .i64 x]∧-9223372036854775808≤x∧x≤9223372036854775807:=by
 obtain ⟨z,hz,_,hw⟩:=DataW.trod_int ht h
 exact ⟨z,hz,i64_bounds hw⟩
theorem g_bool {n:Nat} {t:TypeId} {cs:List Value} {y:DataW H × List MemPlace} (ht:Tryz.prog.underlying t=some .bool) (h:DataW.trod enc Tryz.prog W base (fun _=>true) held n t cs=some y):∃ x:Bool,cs=[.bool x]:=by
 obtain ⟨z,hz,_⟩:=DataW.trod_bool ht h
 exact ⟨z,hz⟩
theorem g_rec {n:Nat} {cs:List Value} {y:DataW H × List MemPlace} (h:DataW.trod enc Tryz.prog W base (fun _=>true) held n 60 cs=some y):∃ x:RcV,cs=x.cells∧x.sq<4294967296∧IsI W x.a x.n x.c x.l∧x.l.length≤Rows.uptoBulk y.1:=by
 obtain ⟨xs,k,hk,hxy,hcl,hxl,hf⟩:=DataW.trod_struct Tryz.underlying60 h
 have hcl':cs.length=3:=hcl.trans (by kernel_rfl)
 have kk:∀ t i m,Tryz.prog.cellsOf t=m→∀ z:DataW H × List MemPlace,DataW.trod enc Tryz.prog W base (fun _=>true) held k t ((cs.drop i).take (Tryz.prog.cellsOf t))=some z→DataW.trod enc Tryz.prog W base (fun _=>true) held k t ((cs.drop i).take m)=some z:=fun t i m ht z h=>by rwa [ht] at h
 obtain ⟨y0,y1,y2,rfl⟩:∃ a b c,xs=[a,b,c]:=by
   match xs,hxl with
   | [a,b,c],_=>exact ⟨a,b,c,rfl⟩
 have hy:y.1=.agg [y0.1,y1.1,y2.1]:=by rw [hxy];rfl
 obtain ⟨z0,e0⟩:=g_u32 Tryz.underlying58 (kk 58 0 1 (by kernel_rfl) _ (hf 0 _ rfl))
 obtain ⟨z1,e1⟩:=g_bool Tryz.underlying4 (kk 4 1 1 (by kernel_rfl) _ (hf 1 _ rfl))
 obtain ⟨a,m,c,l,e2,h2,b2⟩:=g_ints Tryz.underlying22 Tryz.underlying3 (by kernel_rfl) (kk 22 2 1 (by kernel_rfl) _ (hf 2 _ rfl))
 refine ⟨⟨z0.toNat,z1,a,m,c,l⟩,?_,z0.toNat_lt,h2,?_⟩
 · have e:cs=cs.drop 0:=rfl
   rw [e,piece cs 0 1,e0,piece cs (0+1) 1,e1,piece cs (0+1+1) 1,e2,List.drop_eq_nil_of_le (by omega)]
   rfl
 · rw [hy]
   simp only [Rows.uptoBulk,Rows.uptoBulkAll]
   omega
theorem open_cfgK {v:Value} {d:DataW H} {p:List MemPlace} (hv:Value.okWide Tryz.prog W r b0 27 v) (h:DataW.Trod enc Tryz.prog W base (fun _=>true) held 27 v d p) (K:Nat) (hK:Rows.uptoBulk d≤K) :
   ∃ (x:CfgA) (cf:CfgD),v=.agg (x.cells cf.t).toArray∧IsCfg W 0 x cf∧CfgSm cf K:=by
 obtain ⟨cs,rfl,hsz⟩:=okWide_struct Tryz.underlying27 hv
 obtain ⟨fuel,hf⟩:=h
 obtain ⟨xs,n,_,hx,hcl,hxl,hg⟩:=DataW.trod_struct Tryz.underlying27 hf
 have hx1:d=.agg (xs.map (·.1)):=congrArg Prod.fst hx
 have hcl':cs.toList.length=5:=hcl.trans (by kernel_rfl)
 have ecs:(Value.agg cs).cells.toList=cs.toList:=rfl
 rw [ecs] at hg
 obtain ⟨y0,y1,y2,y3,y4,rfl⟩:=len5 xs hxl
 have k:∀ t i,Tryz.prog.cellsOf t=1→∀ z:DataW H × List MemPlace,DataW.trod enc Tryz.prog W base (fun _=>true) held n t ((cs.toList.drop i).take (Tryz.prog.cellsOf t))=some z→DataW.trod enc Tryz.prog W base (fun _=>true) held n t ((cs.toList.drop i).take 1)=some z:=fun t i ht z h=>by rwa [ht] at h
 rw [hx1] at hK
 simp only [List.map_cons,List.map_nil,Rows.uptoBulk,Rows.uptoBulkAll] at hK
 obtain ⟨ra,rn,rc,rl,e0,h0,b0'⟩:=g_ints Tryz.underlying22 Tryz.underlying3 (by kernel_rfl) (k 22 0 (by kernel_rfl) _ (hg 0 _ rfl))
 obtain ⟨sa,sn,sc,sl,e1,h1,b1,b1'⟩:=g_bss Tryz.underlying23 Tryz.underlying24 Tryz.underlying5 (by kernel_rfl) (by kernel_rfl) (k 23 1 (by kernel_rfl) _ (hg 1 _ rfl)) K (by omega)
 obtain ⟨aa,an,ac,al,e2,h2,b2⟩:=g_bytes Tryz.underlying24 Tryz.underlying5 (by kernel_rfl) (k 24 2 (by kernel_rfl) _ (hg 2 _ rfl))
 obtain ⟨ua,un,uc,ul,e3,h3,b3⟩:=g_bytes Tryz.underlying24 Tryz.underlying5 (by kernel_rfl) (k 24 3 (by kernel_rfl) _ (hg 3 _ rfl))
 obtain ⟨tv,e4⟩:=g_u64 Tryz.underlying25 (k 25 4 (by kernel_rfl) _ (hg 4 _ rfl))
 refine ⟨⟨ra,rn,rc,sa,sn,sc,aa,an,ac,ua,un,uc⟩,⟨rl,sl,al,ul,tv⟩,?_,⟨h0,h1,h2,h3⟩,⟨by dsimp only;omega,b1,b1',by dsimp only;omega,by dsimp only;omega⟩⟩
 have ec:cs.toList=CfgA.cells ⟨ra,rn,rc,sa,sn,sc,aa,an,ac,ua,un,uc⟩ tv:=by
   have e:cs.toList=cs.toList.drop 0:=rfl
   rw [e,piece cs.toList 0 1,e0,piece cs.toList (0+1) 1,e1,piece cs.toList (0+1+1) 1,e2,piece cs.toList (0+1+1+1) 1,e3,piece cs.toList (0+1+1+1+1) 1,e4,List.drop_eq_nil_of_le (by omega)]
   rfl
 dsimp only
 rw [← ec]
theorem cfg_stc {x:CfgA} {cf:CfgD} (h:IsCfg W 0 x cf):∃ (y:StA) (c:StC),y.cells c.t=x.cells cf.t∧y.g=x∧c.d=cf∧IsCf W (fun k=>k<W.heap.size) y c:=by
 obtain ⟨vs,hs⟩:=IsBBp.of h.s
 refine ⟨⟨x.ra,x.rn,x.rc,x.sa,x.sn,x.sc,vs,x.aa,x.an,x.ac,x.ua,x.un,x.uc⟩,⟨cf.r,cf.s,cf.a,cf.u,cf.t.toNat⟩,rfl,rfl,?_,⟨⟨h.r,h.r.ltSize⟩,hs,⟨h.a,h.a.ltSize⟩,⟨h.u,h.u.ltSize⟩,cf.t.toNat_lt⟩⟩
 unfold StC.d
 simp
theorem open_AcV {a:Option Addr} {len cap:Nat} {d:DataW H} {p:List MemPlace} (h:DataW.Trod enc Tryz.prog W base (fun _=>true) held 28 (.slice a len cap) d p) (K:Nat) (hK:Rows.uptoBulk d≤K) (hK2:K≤1048576) :
   ∃ L,IsRows AcV.cells 10 W a len cap L∧L.length≤K∧(∀ x ∈ L,AcOk W x)∧∀ x ∈ L,AcSm x:=by
 obtain ⟨fuel,hf⟩:=h
 have ce:Tryz.prog.cellsOf 63=10:=by kernel_rfl
 rcases open_slice Tryz.underlying28 hf with ⟨hcs,_⟩ | ⟨x,l,c,m,n,D,Pl,hcs,_,hl,hm,hmm,hd,hx⟩
 · simp [Value.cells] at hcs
   obtain ⟨rfl,rfl,rfl⟩:=hcs
   exact ⟨[],⟨rfl,Nat.le_refl _,by decide,.inl rfl⟩,Nat.zero_le _,(fun x hx=>by cases hx),(fun x hx=>by cases hx)⟩
 · simp [Value.cells] at hcs
   obtain ⟨rfl,rfl,rfl⟩:=hcs
   have hd1:d=.slice ((List.range len).map D) ((List.range (m - len)).map fun j=>D (len+j)):=congrArg Prod.fst hd
   rw [hd1] at hK
   have hel:=Nat.le_trans (bulks.slice_elems _ _) hK
   have hlen:len≤K:=by
     have:=Nat.le_trans (bulks.slice_le _ _) hK
     simp at this
     omega
   have hDi:∀ i,i<len→Rows.uptoBulk (D i)≤K:=fun i hi=>by
     have:=bulks.part_le (List.mem_map.2 ⟨i,List.mem_range.2 hi,rfl⟩:D i ∈ (List.range len).map D)
     omega
   by_cases h0:len=0
   · subst h0
     exact ⟨[],⟨rfl,Nat.zero_le _,hm,.inl rfl⟩,Nat.zero_le _,(fun x hx=>by cases hx),(fun x hx=>by cases hx)⟩
   have hlm:len≤m:=by rw [hmm];simp;exact hl
   obtain ⟨L,hL,hp⟩:=choose_list (α:=AcV) len (fun i q=>AcOk W q∧AcSm q∧∀ j v,(q.cells)[j]?=some v→W.cell? (x.add (i*10+j))=some v) (fun i hi=>by
     obtain ⟨cs',h1,h2⟩:=hx i (by omega)
     rw [ce] at h1
     obtain ⟨_,hlen3,hcell⟩:=World.cells?_some h1
     obtain ⟨xs,k,hk,hxy,_,hxl,hf3⟩:=DataW.trod_struct Tryz.underlying63 h2
     obtain ⟨y0,y1,y2,y3,y4,y5,y6,y7,rfl⟩:=len8 xs hxl
     have kk:∀ t i m,Tryz.prog.cellsOf t=m→∀ z:DataW H × List MemPlace,DataW.trod enc Tryz.prog W base (fun _=>true) held k t ((cs'.drop i).take (Tryz.prog.cellsOf t))=some z→DataW.trod enc Tryz.prog W base (fun _=>true) held k t ((cs'.drop i).take m)=some z:=fun t i m ht z h=>by rwa [ht] at h
     have hDe:D i=.agg [y0.1,y1.1,y2.1,y3.1,y4.1,y5.1,y6.1,y7.1]:=by simpa using congrArg Prod.fst hxy
     have hDK:=hDi i hi
     rw [hDe] at hDK
     simp only [Rows.uptoBulk,Rows.uptoBulkAll] at hDK
     obtain ⟨z0,e0⟩:=g_u8 Tryz.underlying5 (kk 5 0 1 (by kernel_rfl) _ (hf3 0 _ rfl))
     obtain ⟨z1,e1,m1,m1'⟩:=g_i64 Tryz.underlying3 (kk 3 1 1 (by kernel_rfl) _ (hf3 1 _ rfl))
     obtain ⟨r,e2,q2,hr2,b2⟩:=g_rec (kk 60 2 3 (by kernel_rfl) _ (hf3 2 _ rfl))
     obtain ⟨z3,e3⟩:=g_u8 Tryz.underlying61 (kk 61 5 1 (by kernel_rfl) _ (hf3 3 _ rfl))
     obtain ⟨oa,on,oc,ol,e4,h4,b4⟩:=g_ints Tryz.underlying22 Tryz.underlying3 (by kernel_rfl) (kk 22 6 1 (by kernel_rfl) _ (hf3 4 _ rfl))
     obtain ⟨z5,e5,m5,m5'⟩:=g_i64 Tryz.underlying3 (kk 3 7 1 (by kernel_rfl) _ (hf3 5 _ rfl))
     obtain ⟨z6,e6,m6,m6'⟩:=g_i64 Tryz.underlying3 (kk 3 8 1 (by kernel_rfl) _ (hf3 6 _ rfl))
     obtain ⟨ba,bn,bc,bl,e7,h7,b7⟩:=g_bytes Tryz.underlying24 Tryz.underlying5 (by kernel_rfl) (kk 24 9 1 (by kernel_rfl) _ (hf3 7 _ rfl))
     have ec:cs'=AcV.cells ⟨z0.toNat,z1,r,z3.toNat,oa,on,oc,ol,z5,z6,ba,bn,bc,bl⟩:=by
       have e:cs'=cs'.drop 0:=rfl
       rw [e,piece cs' 0 1,e0,piece cs' (0+1) 1,e1,piece cs' (0+1+1) 3,e2,piece cs' (0+1+1+3) 1,e3,piece cs' (0+1+1+3+1) 1,e4,piece cs' (0+1+1+3+1+1) 1,e5,piece cs' (0+1+1+3+1+1+1) 1,e6,piece cs' (0+1+1+3+1+1+1+1) 1,e7,List.drop_eq_nil_of_le (by omega)]
       simp [AcV.cells,RcV.cells]
     have hrn:=hr2.1
     have hon:=h4.1
     have hbn:=h7.1
     refine ⟨⟨z0.toNat,z1,r,z3.toNat,oa,on,oc,ol,z5,z6,ba,bn,bc,bl⟩,⟨z0.toNat_lt,⟨m1,m1'⟩,⟨q2,hr2,by dsimp only;omega⟩,z3.toNat_lt,⟨h4,by dsimp only;omega⟩,⟨m5,m5'⟩,⟨m6,m6'⟩,⟨h7,by dsimp only;omega⟩⟩,⟨by dsimp only;omega,by dsimp only;omega,by dsimp only;omega⟩,fun j v hj => ?_⟩
     rw [← ec] at hj
     have hj2:=(List.getElem?_eq_some_iff.1 hj).1
     have:=hcell j (by omega)
     rw [add_add] at this
     rw [this]
     simpa using hj)
   obtain ⟨_,_,hc0⟩:=hp 0 (by omega)
   have h00:=hc0 0 _ rfl
   simp only [Nat.zero_mul,Nat.add_zero] at h00
   rw [show x.add 0=x by simp [Addr.add]] at h00
   obtain ⟨hsp,hlt⟩:=addr_spot h00
   obtain ⟨b,off,spot⟩:=x
   simp at hsp
   subst hsp
   refine ⟨L,⟨hL.symm,by omega,hm,.inr ⟨b,off,rfl,hlt,fun i hi j v hj => ?_⟩⟩,by omega,fun y hy => ?_,fun y hy => ?_⟩
   · obtain ⟨_,_,hc⟩:=hp i hi
     have:=hc j v hj
     rwa [addr_add,← Nat.add_assoc] at this
   · obtain ⟨i,hi,rfl⟩:=List.getElem_of_mem hy
     exact (hp i hi).1
   · obtain ⟨i,hi,rfl⟩:=List.getElem_of_mem hy
     exact (hp i hi).2.1
end
end
end Go.Proofs.YtgbikngicidbkaaGreatDoor
