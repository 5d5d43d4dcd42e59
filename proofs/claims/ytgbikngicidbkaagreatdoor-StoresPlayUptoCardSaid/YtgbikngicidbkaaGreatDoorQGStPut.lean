/- The package stores: put;conditions: those typed. -/
import Derived.Test.YtgbikngicidbkaaGreatDoorQGStNGStN2R1ListR1GetL
import Derived.Test.YtgbikngicidbkaaGreatDoorQGStCGStCloStArg2
import Derived.Test.YtgbikngicidbkaaGreatDoorQGSlotsGetGSlotsLaw2StOldP
import Derived.Deep.RegionHeld3
import Derived.Deep.DeepCutAuto
import Derived.Deep.RegionLaw
namespace Go.Proofs.YtgbikngicidbkaaGreatDoor
section
open Go.RowKit
set_option linter.unusedVariables false
set_option linter.unusedSimpArgs false
set_option maxHeartbeats 400000 in
theorem sbclone_any (P:Nat→Prop) (a:Option Addr) (n c:Nat) (vs:List Value) (L:List (List UInt8)) (w:World) (h:IsBBp w P a n c vs L) (hm:L.length≤100000) :
   Calls Tryz.prog 133 #[.slice a n c] w fun e w' => ∃ a' c',e=.returned (.slice a' L.length c')∧Below w.heap.size w w'∧w'.ownsRow w.heap.size 24 1 (.slice a' L.length c') L.length vs:=by
 have hq:∀ (w:World) (a:Option Addr) (n c:Nat),(binOp .eql 23 (.slice a n c) (.slice none 0 0)).run Tryz.prog w=.ok (.bool a.isNone) w:=fun w a n c=>Lib.run_eql_slice_nil w _ _ a n c 0 0 Tryz.underlying23
 obtain rfl:=h.1
 have hvl:=h.2.2.2.1.1
 cases a with
 | none =>
   have hnil:L=[]:=by
     obtain ⟨_,_,_,_,h | ⟨_,_,h,_⟩⟩:=h
     · exact h
     · cases h
   have hv0:vs=[]:=List.eq_nil_of_length_eq_zero (by rw [hvl,hnil];rfl)
   subst hnil hv0
   clear h
   go_enter Tryz.func133,Tryz.ntmps133
   go_wp2
   go_ret
   exact ⟨none,0,rfl,Below.refl _ _,World.ownsRow_nil _ _ _ _⟩
 | some x =>
   have hat:=(h.below ((Below.refl _ w).alloc (Nat.le_refl _) (.cells #[] 24))).at
   have hone:=h.2.2.2.1.one
   clear h
   have HVL:=Lib.hid hvl
   clear hvl
   go_enter Tryz.func133,Tryz.ntmps133
   go_wp2_with (at_builtin;refine wpList_append_any rowBs rfl _ _ rfl w.heap.size _ 0 [] rfl (World.ownsRow_made w #[] 0 (Nat.le_refl _) (Nat.zero_le _) rfl) (some x) L.length c vs rfl (by rw [HVL.out];omega) hat hone (by unfold maxLen;omega) (by omega) (by simp) ?_;intro b2 c2 w2 hown2 hg2 hat2;simp only [Nat.zero_add,List.nil_append] at hown2 hat2)
   go_ret
   refine ⟨b2,c2,rfl,((Below.refl _ w).alloc (Nat.le_refl _) _).grown hg2 (by simp) (fun j hj => ?_),hown2⟩
   have hj':some w.heap.size=some j:=hj
   cases hj'
   exact Nat.le_refl _
theorem frozen1I (w:World) (x:Int) (u:UInt8) (e:TypeId) (fz:Nat × Nat) (h:x=(u.toNat:Int)):IsB (w.alloc (.cells #[.int .u8 x] e fz)) (some ⟨w.heap.size,0,none⟩) 1 1 [u]:=by
 subst h;exact frozen1 w u e fz
theorem two_at (w:World) (x y:Value) (e:TypeId):At (w.alloc (.cells #[x,y] e)) (some ⟨w.heap.size,0,none⟩) [x,y]:=At.of_cells fun j hj=>by
 rw [Nat.zero_add,cell_of_block (heap_new w _)]
 match j,hj with
 | 0,_=>rfl
 | 1,_=>rfl
theorem two_one {a b:Option Addr} {n c m d:Nat}:∀ u ∈ [Value.slice a n c,.slice b m d],u.oneCell'=true:=by intro u hu;simp at hu;rcases hu with rfl | rfl <;> rfl
theorem At.later {w w':World} {a:Option Addr} {l:List Value} (h:At w a l) (hb:Below w.heap.size w w'):At w' a l:=fun j u hu=>by
 obtain ⟨b,rfl,hc⟩:=h j u hu
 exact ⟨b,rfl,(hb.cell (World.block_lt_of_cell? _ _ hc)).trans hc⟩
theorem At.drew {w:World} {a:Option Addr} {l:List Value} (h:At w a l):At w.drew a l:=h.later (Below.refl _ _).drew
def StC.part (c:StC) (j:Nat):List UInt8:=encL c.r ++ (leB c.s.length 1 ++ encBs ((c.s ++ [c.a,c.u]).take j))
theorem encBs_take_succ (L:List (List UInt8)) (k:Nat) (h:k<L.length):encBs (L.take (k+1))=encBs (L.take k) ++ encB L[k]:=by
 rw [List.take_succ_eq_append_getElem h,encBs_append];simp [encBs]
theorem StC.part_succ (c:StC) (j:Nat) (h:j<(c.s ++ [c.a,c.u]).length):c.part (j+1)=c.part j ++ encB (c.s ++ [c.a,c.u])[j]:=by
 unfold StC.part
 rw [encBs_take_succ _ _ h];simp
theorem StC.part_le (c:StC) (h:c.may) (j:Nat):(c.part j).length≤320:=by
 have h1:=encBs_length_le ((c.s ++ [c.a,c.u]).take j) (fun x hx=>by
   have hx:=List.mem_of_mem_take hx
   rcases List.mem_append.1 hx with hx | hx
   · exact (h.e x hx).2
   · simp at hx;rcases hx with rfl | rfl
     · exact h.a.2
     · exact h.u.2)
 have h2:=h.r.2.1
 have h3:=h.s.2
 have h4:((c.s ++ [c.a,c.u]).take j).length≤10:=by
   have:=List.length_take_le j (c.s ++ [c.a,c.u])
   have:((c.s ++ [c.a,c.u]).take j).length≤(c.s ++ [c.a,c.u]).length:=List.length_take_le' _ _
   simp at this;simp;omega
 unfold StC.part
 simp only [List.length_append,leB_length,encL_length,List.length_take]
 simp only [List.length_take] at h1 h4
 omega
theorem StC.enc_part (c:StC):c.enc=c.part (c.s.length+2) ++ leB c.t 8:=by
 unfold StC.enc StC.part
 rw [List.take_of_length_le (by simp)]
 simp
set_option maxRecDepth 100000 in
set_option maxHeartbeats 8000000 in
theorem put_cfg (P:Nat→Prop) (x:StA) (c:StC) (w:World) (h:IsCf w P x c) (hmay:c.may) :
   Calls Tryz.prog 56 #[.agg (x.cells c.t).toArray] w fun e w' => ∃ a n,e=.returned (.slice a n n)∧Below w.heap.size w w'∧IsB w' a n n c.enc∧∀ b off,a=some ⟨b,off,none⟩→w.heap.size≤b:=by
 obtain ⟨ra,rn,rc,sa,sn,sc,sv,aa,an,ac,ua,un,uc⟩:=x
 obtain ⟨hr,hs,ha,hu,ht⟩:=h
 dsimp only at hr hs ha hu ⊢
 unfold StA.cells
 dsimp only
 have hb0:Below w.heap.size w (w.alloc (.cells #[.slice ra rn rc,.slice sa sn sc,.slice aa an ac,.slice ua un uc,.int .u64 (c.t:Int)] 27)):=(Below.refl _ _).alloc (Nat.le_refl _) _
 have hv:=heap_new w (.cells #[.slice ra rn rc,.slice sa sn sc,.slice aa an ac,.slice ua un uc,.int .u64 (c.t:Int)] 27 (0,0))
 obtain rfl:=hs.1
 have hrb:=hr.1.below hb0
 have hsb:=hs.below hb0
 have hab:=ha.1.below hb0
 have hub:=hu.1.below hb0
 go_enter Tryz.func56,Tryz.ntmps56
 go_wp2_with fail
 generalize w.alloc (.cells #[.slice ra rn rc,.slice sa c.s.length sc,.slice aa an ac,.slice ua un uc,.int .u64 (c.t:Int)] 27)=w0 at hb0 hv hrb hsb hab hub ⊢
 have f0:w0.cell? ⟨w.heap.size,0,none⟩=some (.slice ra rn rc):=by rw [cell_of_block hv];rfl
 have f1:w0.cell? ⟨w.heap.size,1,none⟩=some (.slice sa c.s.length sc):=by rw [cell_of_block hv];rfl
 have HV:=Lib.hid hv
 have hs8:=hmay.s.2
 have hs1:=hmay.s.1
 have e1:Hid (IntKind.u8.wrap (c.s.length:Int)=((UInt8.ofNat c.s.length).toNat:Int)):=Lib.hid (by rw [IntKind.wrap_u8];simp)
 have hd0:=(Below.refl w0.heap.size w0).drew
 have hdA:∀ o,Below w0.heap.size w0 (w0.alloc o).drew:=fun o=>((Below.refl _ _).alloc (Nat.le_refl _) o).drew
 have hl8:(encL c.r).length≤33:=by rw [encL_length];have:=hmay.r.2.1;simp;omega
 have HT:=Lib.hid ht
 have HMAY:=Lib.hid hmay
 have HR:=Lib.hid hrb
 have HP0:Hid (c.part 0=encL c.r ++ [UInt8.ofNat c.s.length]):=Lib.hid (by simp [StC.part,encBs,leB_one])
 clear hr hs ha hu ht hv hmay hrb
 go_upto_region 1 with fail
 go_cut [3] (fun s3 wx => ∃ a m c',s3=.slice a m c'∧Hid (Below w0.heap.size w0 wx∧IsB wx a m c' (c.part 0)))
 case first =>
   go_region_held3 (fun w' => w'.cell? ⟨w.heap.size,0,none⟩=some (.slice ra rn rc)∧w'.cell? ⟨w.heap.size,1,none⟩=some (.slice sa c.s.length sc)) (first
       | with_reducible exact ⟨cell_later hB3 f0,cell_later hB3 f1⟩
       | with_reducible exact ⟨cell_later (hB1.alloc hB1.size _) f0,cell_later (hB1.alloc hB1.size _) f1⟩
       | with_reducible exact ⟨cell_later hB1 f0,cell_later hB1 f1⟩
       | with_reducible exact ⟨cell_later (hdA _) f0,cell_later (hdA _) f1⟩
       | with_reducible exact ⟨cell_later hd0 f0,cell_later hd0 f1⟩) (first
     | (go_at_call 72;((with_reducible refine (nputlist_any none 0 0 [] ra rn rc c.r w0.drew (IsB.nil _) (by decide) (HR.out.below hd0)).mono ?_);rintro e w1 ⟨a1,m1,rfl,hb1,hi1⟩;have hB1:Below w0.heap.size w0 w1:=hd0.trans (hb1.mono hd0.size)))
     | (go_at_call 72;((with_reducible refine (nputlist_any none 0 0 [] ra rn rc c.r _ (IsB.nil _) (by decide) (HR.out.below (hdA _))).mono ?_);rintro e w1 ⟨a1,m1,rfl,hb1,hi1⟩;have hB1:Below w0.heap.size w0 w1:=(hdA _).trans (hb1.mono (hdA _).size)))
     | (refine step_append_fullB rfl (.tmp 8) (.tmp 13) rfl a1 m1 _ rfl (hi1.below ((Below.refl _ w1).alloc (Nat.le_refl _) _)) (some ⟨w1.heap.size,0,none⟩) 1 1 _ rfl (frozen1I w1 _ (UInt8.ofNat c.s.length) _ _ e1.out) (by simp;omega) ?_;intro a3 c3 w3 hi3 hb3 _;have hB3:Below w0.heap.size w0 w3:=(hB1.alloc hB1.size _).trans (hb3.mono (hB1.alloc hB1.size _).size))
     | (refine step_append_fullB rfl (.tmp 8) (.tmp 13) rfl a1 m1 _ rfl hi1 (some ⟨w0.heap.size,0,none⟩) 1 1 _ rfl (((frozen1I w0 _ (UInt8.ofNat c.s.length) _ _ e1.out).below (Below.refl _ _).drew).below hb1) (by simp;omega) ?_;intro a3 c3 w3 hi3 hb3 _;have hB3:Below w0.heap.size w0 w3:=hB1.trans (hb3.mono hB1.size))
     | fail)
   all_goals
     have H3:Hid (Below w0.heap.size w0 w3∧IsB w3 a3 (m1+1) c3 (c.part 0)):=Lib.hid ⟨hB3,by rw [HP0.out];simpa using hi3⟩
     clear hi3 hi1 hB1 hb1 hB3 hb3
     go_wp2_with fail
     go_meet
     exact ⟨a3,m1+1,c3,rfl,H3⟩
 case rest =>
   obtain ⟨a3,m3,c3,rfl,H3⟩:=hcut
   obtain ⟨wa,rfl⟩:∃ wa:World,wa=wc:=⟨_,rfl⟩
   have hv3:=below_heap H3.out.1 HV.out (lt_of_heap HV.out)
   have q1:wa.cell? ⟨w.heap.size,1,none⟩=some (.slice sa c.s.length sc):=by rw [cell_of_block hv3];rfl
   have q2:wa.cell? ⟨w.heap.size,2,none⟩=some (.slice aa an ac):=by rw [cell_of_block hv3];rfl
   have q3:wa.cell? ⟨w.heap.size,3,none⟩=some (.slice ua un uc):=by rw [cell_of_block hv3];rfl
   have HS3:=Lib.hid (hsb.below H3.out.1)
   have HA3:=Lib.hid (hab.below H3.out.1)
   have HU3:=Lib.hid (hub.below H3.out.1)
   have kd0:=(Below.refl wa.heap.size wa).drew
   have kdA:∀ o,Below wa.heap.size wa (wa.alloc o).drew:=fun o=>((Below.refl _ _).alloc (Nat.le_refl _) o).drew
   have hvl:=hsb.2.2.2.1.1
   have HVL:=Lib.hid hvl
   clear f0 f1 hv3 hsb hab hub hd0 hdA hvl HR
   go_upto_region 2 with fail
   go_cut [23,24,25] (fun s23 s24 s25 wx => ∃ a c',s23=.slice a (c.s.length+2) c'∧s24=.int .i64 ((c.s.length:Int)+2)∧s25=.int .i64 0∧Hid (Below wa.heap.size wa wx∧wx.ownsRow wa.heap.size 24 1 (.slice a (c.s.length+2) c') (c.s.length+2) (sv ++ [.slice aa an ac,.slice ua un uc])))
   case first =>
     go_region_held3 (fun w' => w'.cell? ⟨w.heap.size,1,none⟩=some (.slice sa c.s.length sc)∧w'.cell? ⟨w.heap.size,2,none⟩=some (.slice aa an ac)∧w'.cell? ⟨w.heap.size,3,none⟩=some (.slice ua un uc)) (first
         | with_reducible exact ⟨cell_later hB3 q1,cell_later hB3 q2,cell_later hB3 q3⟩
         | with_reducible exact ⟨cell_later (hB1.alloc hB1.size _) q1,cell_later (hB1.alloc hB1.size _) q2,cell_later (hB1.alloc hB1.size _) q3⟩
         | with_reducible exact ⟨cell_later hB1 q1,cell_later hB1 q2,cell_later hB1 q3⟩
         | with_reducible exact ⟨cell_later (kdA _) q1,cell_later (kdA _) q2,cell_later (kdA _) q3⟩
         | with_reducible exact ⟨cell_later kd0 q1,cell_later kd0 q2,cell_later kd0 q3⟩) (first
       | (go_at_call 133;((with_reducible refine (sbclone_any P sa c.s.length sc sv c.s wa.drew (HS3.out.below kd0) (by omega)).mono ?_);rintro e w1 ⟨a1,c1,rfl,hb1,ho1⟩;have hB1:Below wa.heap.size wa w1:=kd0.trans (hb1.mono kd0.size)))
       | (go_at_call 133;((with_reducible refine (sbclone_any P sa c.s.length sc sv c.s _ (HS3.out.below (kdA _)) (by omega)).mono ?_);rintro e w1 ⟨a1,c1,rfl,hb1,ho1⟩;have hB1:Below wa.heap.size wa w1:=(kdA _).trans (hb1.mono (kdA _).size)))
       | (refine step_append_any rowBs rfl (.tmp 17) (.tmp 22) rfl wa.heap.size _ c.s.length sv rfl (owns_low (ho1.alloc _) kd0.size) (some ⟨w1.heap.size,0,none⟩) 2 2 [.slice aa an ac,.slice ua un uc] rfl rfl (two_at w1 _ _ _) two_one (by unfold maxLen;omega) (by omega) (hB1.alloc hB1.size _).size ?_;intro a3' c3' w3 ho3 hg3 _;have hB3:Below wa.heap.size wa w3:=(hB1.alloc hB1.size _).grown hg3 (hB1.alloc hB1.size _).size (fun i hi=>owns_base (owns_low ho1 kd0.size) i hi))
       | (refine step_append_any rowBs rfl (.tmp 17) (.tmp 22) rfl wa.heap.size _ c.s.length sv rfl (owns_low ho1 (by simp)) (some ⟨wa.heap.size,0,none⟩) 2 2 [.slice aa an ac,.slice ua un uc] rfl rfl ((two_at wa _ _ _).drew.later hb1) two_one (by unfold maxLen;omega) (by omega) hB1.size ?_;intro a3' c3' w3 ho3 hg3 _;have hB3:Below wa.heap.size wa w3:=hB1.grown hg3 hB1.size (fun i hi=>owns_base (owns_low ho1 (by simp)) i hi))
       | fail)
     all_goals
       have H4:Hid (Below wa.heap.size wa w3∧w3.ownsRow wa.heap.size 24 1 (.slice a3' (c.s.length+2) c3') (c.s.length+2) (sv ++ [.slice aa an ac,.slice ua un uc])):=Lib.hid ⟨hB3,ho3⟩
       clear ho3 ho1 hB1 hb1 hB3 hg3
       go_wp2_with fail
       go_meet
       exact ⟨a3',c3',rfl,by first | rfl | (congr 1;omega) | (push_cast;rfl),rfl,H4⟩
   case rest =>
     obtain ⟨a4,c4,rfl,rfl,rfl,H4⟩:=hcut
     obtain ⟨wb,rfl⟩:∃ wb:World,wb=wc:=⟨_,rfl⟩
     obtain ⟨g4,rfl⟩:∃ g4,a4=some ⟨g4,0,none⟩:=by
       rcases H4.out.2.2 with ⟨h,_⟩ | ⟨g,_,_,h,_⟩
       · cases h
       · exact ⟨g,by cases h;rfl⟩
     have HLB:Hid (∀ j (h:j<(c.s ++ [c.a,c.u]).length),∃ x y z,wb.cell? ⟨g4,j,none⟩=some (.slice x y z)∧IsB wb x y z (c.s ++ [c.a,c.u])[j]):=Lib.hid (fun j hj=>by
       by_cases hjs:j<c.s.length
       · obtain ⟨x,y,z,h1,h2⟩:=HS3.out.2.2.2.1.2 j hjs
         refine ⟨x,y,z,cells_of_owns H4.out.2 j _ (by rw [List.getElem?_append_left (by rw [HVL.out];exact hjs)];exact h1),?_⟩
         rw [List.getElem_append_left hjs]
         exact h2.1.below H4.out.1
       · have hj2:j=c.s.length∨j=c.s.length+1:=by simp at hj;omega
         rcases hj2 with rfl | rfl
         · refine ⟨aa,an,ac,cells_of_owns H4.out.2 _ _ (by rw [List.getElem?_append_right (by rw [HVL.out];exact Nat.le_refl _),HVL.out,Nat.sub_self];rfl),?_⟩
           rw [List.getElem_append_right (Nat.le_refl _)]
           simpa using HA3.out.below H4.out.1
         · refine ⟨ua,un,uc,cells_of_owns H4.out.2 _ _ (by rw [List.getElem?_append_right (by rw [HVL.out];omega),HVL.out,Nat.add_sub_cancel_left];rfl),?_⟩
           rw [List.getElem_append_right (by omega)]
           simpa using HU3.out.below H4.out.1)
     have H34:Hid (Below w0.heap.size w0 wb∧IsB wb a3 m3 c3 (c.part 0)):=Lib.hid ⟨H3.out.1.trans (H4.out.1.mono H3.out.1.size),H3.out.2.below H4.out.1⟩
     have hlen:(c.s ++ [c.a,c.u]).length=c.s.length+2:=by simp
     have HLEN:=Lib.hid hlen
     have hg4:g4<wb.heap.size:=by
       obtain ⟨x,y,z,h,_⟩:=HLB.out 0 (by omega)
       exact World.block_lt_of_cell? _ _ h
     clear hlen q1 q2 q3 kd0 kdA HS3 HA3 HU3 H3 H4
     obtain ⟨N,hN⟩:∃ N,N=c.s.length+2:=⟨_,rfl⟩
     have HN:=Lib.hid hN
     clear hN
     go_wp2_with fail
     go_loopw [25,3] (fun i s wr => ∃ j m:Nat,∃ a' c',j≤c.s.length+2∧i=.int .i64 j∧s=.slice a' m c'∧Hid (Below w0.heap.size w0 wr∧Below wb.heap.size wb wr∧IsB wr a' m c' (c.part j))) (fun i _ _=>N - (intOf i).toNat)
     case atStart=>exact ⟨0,m3,a3,c3,Nat.zero_le _,rfl,rfl,Lib.hid ⟨H34.out.1,Below.refl _ _,H34.out.2⟩⟩
     case round =>
       clear H34
       obtain ⟨j,m,a',c',hj,rfl,rfl,HS⟩:=hrel
       by_cases hlt:j<c.s.length+2
       · have hjl:j<(c.s ++ [c.a,c.u]).length:=by rw [HLEN.out];exact hlt
         obtain ⟨x,y,z,hc,hbx⟩:=HLB.out j hjl
         have hcj:wr.cell? ⟨g4,j,none⟩=some (.slice x y z):=(HS.out.2.1.cell (p:=⟨g4,j,none⟩) hg4).trans hc
         have HX:=Lib.hid (hbx.below HS.out.2.1)
         have HPS:=Lib.hid (c.part_succ j hjl)
         generalize (c.s ++ [c.a,c.u])[j]=lj at hbx HX HPS
         have hpl:=HMAY.out
         have hm':=StC.part_le c hpl j
         clear hc hbx hpl
         go_wp2_with fail
         refine (nputbytes_any a' m c' (c.part j) x y z lj wr HS.out.2.2 (by omega) HX.out).mono ?_;rintro e w5 ⟨a5,m5,rfl,hb5,hi5⟩
         rw [← HPS.out] at hi5
         have H5:Hid (Below w0.heap.size w0 w5∧Below wb.heap.size wb w5∧IsB w5 a5 m5 m5 (c.part (j+1))):=Lib.hid ⟨HS.out.1.trans (hb5.mono HS.out.1.size),HS.out.2.1.trans (hb5.mono HS.out.2.1.size),hi5⟩
         clear hb5 hi5
         go_wp2_with fail
         go_roundw
         case rel=>exact ⟨j+1,m5,a5,m5,by omega,by go_num,rfl,H5⟩
         case measure=>have:=HN.out;simp [intOf];omega
       · have hjk:j=c.s.length+2:=by omega
         subst hjk
         have hvr:=below_heap HS.out.1 HV.out (lt_of_heap HV.out)
         have q4:wr.cell? ⟨w.heap.size,4,none⟩=some (.int .u64 (c.t:Int)):=by rw [cell_of_block hvr];rfl
         have hm':=StC.part_le c HMAY.out (c.s.length+2)
         have HE:=Lib.hid (StC.enc_part c)
         clear hvr
         go_wp2_with fail
         refine (nput_vo a' m c' (c.part (c.s.length+2)) c.t _ 8 (m+8) wr rfl HS.out.2.2 (by have:=HS.out.2.2.1;omega) (by omega) HT.out (by decide) (by decide)).mono ?_;rintro e w6 ⟨a6,rfl,hb6,hi6,ho6⟩
         rw [← HE.out] at hi6
         have H6:Hid (Below w.heap.size w w6∧IsB w6 a6 (m+8) (m+8) c.enc∧∀ b off,a6=some ⟨b,off,none⟩→w.heap.size≤b):=Lib.hid ⟨(hb0.trans (HS.out.1.mono hb0.size)).trans (hb6.mono (Nat.le_trans hb0.size HS.out.1.size)),hi6,fun b off he=>Nat.le_trans hb0.size (Nat.le_trans HS.out.1.size (ho6 b off he))⟩
         clear hb6 hi6 ho6
         go_wp2_with fail
         go_ret
         exact ⟨a6,m+8,rfl,H6.out⟩
/- The package stores: the way that reads the secrets;conditions: those typed. -/
open Go.RowKit
variable {P:Nat→Prop}
set_option linter.unusedVariables false
set_option linter.unusedSimpArgs false
theorem decBs_succ (j:Nat):∀ (b:List UInt8),decBs (j+1) b=match decBs j b with
   | none=>none
   | some (s,r)=>match decB r with
     | none=>none
     | some (x,r2)=>some (s ++ [x],r2):=by
 induction j with
 | zero =>
   intro b
   simp only [decBs]
   cases decB b with
   | none=>rfl
   | some y=>obtain ⟨x,r⟩:=y;rfl
 | succ j ih =>
   intro b
   have e1:decBs (j+1+1) b=match decB b with
     | none=>none
     | some (x,r)=>match decBs (j+1) r with
       | none=>none
       | some (l,r2)=>some (x :: l,r2):=rfl
   have e2:decBs (j+1) b=match decB b with
     | none=>none
     | some (x,r)=>match decBs j r with
       | none=>none
       | some (l,r2)=>some (x :: l,r2):=rfl
   rw [e1,e2]
   cases decB b with
   | none=>rfl
   | some y =>
     obtain ⟨x,r⟩:=y
     dsimp only
     rw [ih r]
     cases decBs j r with
     | none=>rfl
     | some z =>
       obtain ⟨l,r2⟩:=z
       dsimp only
       cases decB r2 with
       | none=>rfl
       | some u=>obtain ⟨x2,r3⟩:=u;rfl
theorem decBs_none {j n:Nat} (h:j≤n) (b:List UInt8) (hj:decBs j b=none):decBs n b=none:=by
 induction n with
 | zero => obtain rfl : j = 0 := by omega
           exact hj
 | succ n ih =>
   by_cases hjn:j=n+1
   · subst hjn;exact hj
   · rw [decBs_succ,ih (by omega)]
theorem decBs_length {j:Nat} {b r:List UInt8} {s:List (List UInt8)} (h:decBs j b=some (s,r)):s.length=j:=by
 induction j generalizing b s with
 | zero=>cases h;rfl
 | succ j ih =>
   simp only [decBs] at h
   cases hb:decB b with
   | none=>rw [hb] at h;cases h
   | some y =>
     obtain ⟨x,r1⟩:=y
     rw [hb] at h
     dsimp only at h
     cases hs:decBs j r1 with
     | none=>rw [hs] at h;cases h
     | some z =>
       obtain ⟨l,r2⟩:=z
       rw [hs] at h
       cases h
       simp [ih hs]
theorem owns_ne {w:World} {B B' e e' sz sz' n n':Nat} {v v':Value} {xs xs':List Value} (h:w.ownsRow B e sz v n xs) (h':w.ownsRow B' e' sz' v' n' xs') (hne:e≠e'):∀ k,v.ownBlock=some k→v'.ownBlock≠some k:=fun k hk hk' => by
 obtain ⟨c1,h1⟩:=owns_block h hk
 obtain ⟨c2,h2⟩:=owns_block h' hk'
 rw [h1] at h2
 exact hne (Obj.cells.inj (Option.some.inj h2)).2.1
theorem IsRd.touch {S:Nat→Prop} {w w':World} {br:Nat} {b:List UInt8} {bad:Bool} (h:IsRd P w br b bad) (ht:Touch S w w') (hb:¬ S br) (hs:∀ k,P k→¬ S k):IsRd P w' br b bad:=by
 obtain ⟨a,n,c,h1,h2,h3⟩:=h
 exact ⟨a,n,c,ht.heap h1 hb,h2.touch ht (fun b off ha hl=>hs b (h3 b off ha hl)),h3⟩
theorem RdTo.touch {S:Nat→Prop} {w w':World} {br:Nat} {b:List UInt8} {o:Option (List UInt8)} (h:RdTo P w br b o) (ht:Touch S w w') (hb:¬ S br) (hs:∀ k,P k→¬ S k):RdTo P w' br b o:=by
 cases o with
 | none=>exact IsRd.touch h ht hb hs
 | some r=>exact IsRd.touch h ht hb hs
def Asc (vs:List Value):Prop:=∀ (i j:Nat) (x y:Value) (kx ky:Nat),i<j→vs[i]?=some x→vs[j]?=some y→x.ownBlock=some kx→y.ownBlock=some ky→kx<ky
def AllLt (vs:List Value) (m:Nat):Prop:=∀ (i:Nat) (x:Value) (k:Nat),vs[i]?=some x→x.ownBlock=some k→k<m
theorem Asc.nil:Asc []:=fun i j x y kx ky _ h=>by simp at h
theorem AllLt.nil (m:Nat):AllLt [] m:=fun i x k h=>by simp at h
theorem AllLt.low {vs:List Value} {m m':Nat} (h:AllLt vs m) (hm:m≤m'):AllLt vs m':=fun i x k h1 h2=>Nat.lt_of_lt_of_le (h i x k h1 h2) hm
theorem Asc.snoc {vs:List Value} {v:Value} {m:Nat} (h:Asc vs) (hl:AllLt vs m) (hv:∀ k,v.ownBlock=some k→m≤k):Asc (vs ++ [v]):=by
 intro i j x y kx ky hij hx hy hkx hky
 have hj:j<(vs ++ [v]).length:=(List.getElem?_eq_some_iff.1 hy).1
 simp only [List.length_append,List.length_cons,List.length_nil] at hj
 rw [List.getElem?_append_left (by omega)] at hx
 by_cases hjl:j<vs.length
 · rw [List.getElem?_append_left hjl] at hy
   exact h i j x y kx ky hij hx hy hkx hky
 · obtain rfl:j=vs.length:=by omega
   rw [List.getElem?_append_right (Nat.le_refl _),Nat.sub_self] at hy
   obtain rfl:v=y:=Option.some.inj hy
   exact Nat.lt_of_lt_of_le (hl i x kx hx hkx) (hv ky hky)
def BBn (B:Nat) (w:World) (vs:List Value) (s:List (List UInt8)):Prop:=vs.length=s.length∧(∀ i (h:i<s.length),∃ a,vs[i]?=some (.slice a s[i].length s[i].length)∧NwB B w a s[i])∧Asc vs
theorem BBn.nil (B:Nat) (w:World):BBn B w [] []:=⟨rfl,fun i h=>by simp at h,Asc.nil⟩
theorem BBn.touch {B:Nat} {S:Nat→Prop} {w w':World} {vs:List Value} {s:List (List UInt8)} (h:BBn B w vs s) (ht:Touch S w w') (hs:∀ k,B≤k→(∃ cur,w.heap[k]?=some (.cells cur 5 (0,0)))→¬ S k):BBn B w' vs s:=by
 refine ⟨h.1,fun i hi => ?_,h.2.2⟩
 obtain ⟨a,h1,c,h2⟩:=h.2.1 i hi
 exact ⟨a,h1,c,owns_touch h2 ht (fun k hk=>hs k (owns_base h2 k hk) (owns_block h2 hk))⟩
theorem BBn.snoc {B:Nat} {w:World} {vs:List Value} {s:List (List UInt8)} (h:BBn B w vs s) {a:Option Addr} {l:List UInt8} (hl:NwB B w a l) {m:Nat} (hlt:AllLt vs m) (ha:∀ k off,a=some ⟨k,off,none⟩→m≤k):BBn B w (vs ++ [.slice a l.length l.length]) (s ++ [l]):=by
 refine ⟨by simp [h.1],fun i hi => ?_,h.2.2.snoc hlt (fun k hk=>by
   obtain ⟨c,hl⟩:=hl
   rcases hl.2 with ⟨e,_⟩ | ⟨g,cap,cur,e,_⟩
   · obtain ⟨rfl,_,_⟩:=Value.slice.inj e;cases hk
   · obtain ⟨rfl,_,_⟩:=Value.slice.inj e;cases hk;exact ha _ _ rfl)⟩
 by_cases hil:i<s.length
 · obtain ⟨a',h1,h2⟩:=h.2.1 i hil
   rw [List.getElem_append_left hil]
   exact ⟨a',by rw [List.getElem?_append_left (by rw [h.1];exact hil)];exact h1,h2⟩
 · have hie:i=s.length:=by simp at hi;omega
   subst hie
   have e:(s ++ [l])[s.length]'hi=l:=by simp
   rw [e]
   exact ⟨a,by rw [List.getElem?_append_right (by rw [h.1];exact Nat.le_refl _),h.1,Nat.sub_self];rfl,hl⟩
theorem BBn.bbv {B:Nat} {w:World} {vs:List Value} {s:List (List UInt8)} (h:BBn B w vs s):BBv w (fun k=>B≤k) vs s :=
 ⟨h.1,fun i hi=>by obtain ⟨a,h1,h2⟩:=h.2.1 i hi;exact ⟨a,_,_,h1,h2.isBp⟩⟩
theorem BBn.lt {B:Nat} {w:World} {vs:List Value} {s:List (List UInt8)} (h:BBn B w vs s):AllLt vs w.heap.size:=fun i x k hx hk=>by
 have hi:i<vs.length:=(List.getElem?_eq_some_iff.1 hx).1
 obtain ⟨a,h1,c,h2⟩:=h.2.1 i (by rw [← h.1];exact hi)
 rw [hx] at h1
 obtain rfl:=Option.some.inj h1
 cases a with
 | none=>cases hk
 | some x =>
   obtain ⟨cur,hc⟩:=owns_block h2 (k:=k) hk
   exact lt_of_heap hc
def SecV (B:Nat) (w:World) (v:Value) (s:List (List UInt8)):Prop:=∃ a c vs,v=.slice a s.length c∧w.ownsRow B 24 1 v s.length vs∧BBn B w vs s
theorem SecV.nil (B:Nat) (w:World):SecV B w (.slice none 0 0) []:=⟨none,0,[],rfl,World.ownsRow_nil _ _ _ _,BBn.nil _ _⟩
theorem SecV.touch {B:Nat} {S:Nat→Prop} {w w':World} {v:Value} {s:List (List UInt8)} (h:SecV B w v s) (ht:Touch S w w') (hs:∀ k,B≤k→¬ S k):SecV B w' v s:=by
 obtain ⟨a,c,vs,h1,h2,h3⟩:=h
 exact ⟨a,c,vs,h1,owns_touch h2 ht (fun k hk=>hs k (owns_base h2 k hk)),h3.touch ht (fun k hk _=>hs k hk)⟩
theorem SecV.low {B B':Nat} {w:World} {v:Value} {s:List (List UInt8)} (h:SecV B w v s) (hb:B'≤B):SecV B' w v s:=by
 obtain ⟨a,c,vs,h1,h2,h3,h4,h7⟩:=h
 exact ⟨a,c,vs,h1,owns_low h2 hb,h3,fun i hi=>by obtain ⟨a,h5,h6⟩:=h4 i hi;exact ⟨a,h5,h6.low hb⟩,h7⟩
def SecB (B m:Nat) (w:World) (v:Value) (s:List (List UInt8)):Prop:=∃ a c vs,v=.slice a s.length c∧w.ownsRow B 24 1 v s.length vs∧BBn B w vs s∧AllLt vs m∧(∀ k,v.ownBlock=some k→k<m)
theorem SecV.toB {B:Nat} {w:World} {v:Value} {s:List (List UInt8)} (h:SecV B w v s):SecB B w.heap.size w v s:=by
 obtain ⟨a,c,vs,h1,h2,h3⟩:=h
 exact ⟨a,c,vs,h1,h2,h3,h3.lt,fun k hk=>by obtain ⟨cur,hc⟩:=owns_block h2 hk;exact lt_of_heap hc⟩
theorem SecB.toV {B m:Nat} {w:World} {v:Value} {s:List (List UInt8)} (h:SecB B m w v s):SecV B w v s:=by
 obtain ⟨a,c,vs,h1,h2,h3,_⟩:=h
 exact ⟨a,c,vs,h1,h2,h3⟩
theorem SecB.touch {B m:Nat} {S:Nat→Prop} {w w':World} {v:Value} {s:List (List UInt8)} (h:SecB B m w v s) (ht:Touch S w w') (hs:∀ k,B≤k→¬ S k):SecB B m w' v s:=by
 obtain ⟨a,c,vs,h1,h2,h3,h4,h5⟩:=h
 exact ⟨a,c,vs,h1,owns_touch h2 ht (fun k hk=>hs k (owns_base h2 k hk)),h3.touch ht (fun k hk _=>hs k hk),h4,h5⟩
theorem SecB.low {B B' m m':Nat} {w:World} {v:Value} {s:List (List UInt8)} (h:SecB B m w v s) (hb:B'≤B) (hm:m≤m'):SecB B' m' w v s:=by
 obtain ⟨a,c,vs,h1,h2,⟨h3,h4,h7⟩,h5,h6⟩:=h
 exact ⟨a,c,vs,h1,owns_low h2 hb,⟨h3,fun i hi=>by obtain ⟨a,h5,h6⟩:=h4 i hi;exact ⟨a,h5,h6.low hb⟩,h7⟩,h5.low hm,fun k hk=>Nat.lt_of_lt_of_le (h6 k hk) hm⟩
def G3J (P:Nat→Prop) (b0:List UInt8) (n br b2:Nat) (v0 v2 v3 v4:Value) (W0:World) (j:Nat) (bad:Bool) (W:World):Prop :=
 Touch (fun k=>k=br∨k=b2) W0 W∧∃ r v,IsRd P W br r bad∧W.heap[b2]?=some (.cells #[v0,v,v2,v3,v4] 27 (0,0))∧(∃ a m c,v=.slice a m c) ∧
   (bad=true→decBs n b0=none)∧(bad=false→∃ s,decBs j b0=some (s,r)∧SecV W0.heap.size W v s)
theorem g3_step {b:List UInt8} {n br b2:Nat} {v0 v2 v3 v4:Value} {W wr w1 w8:World} {s:List (List UInt8)} {r:List UInt8} {va xa b8:Option Addr} {vc xn xc c8:Nat} {vs:List Value}
   (hlt:s.length<n) (hPW:∀ k,P k→k<W.heap.size) (hbr:br<W.heap.size) (hb2:b2<W.heap.size) (hne:b2≠br) (hP2:¬ P b2)
   (ht:Touch (fun k=>k=br∨k=b2) W wr) (hd:decBs s.length b=some (s,r)) (ho:wr.ownsRow W.heap.size 24 1 (.slice va s.length vc) s.length vs) (hvs:BBn W.heap.size wr vs s)
   (ht1:Touch (fun j=>j=br) wr.drew w1) (hr1:RdTo P w1 br r ((decB r).map (·.2))) (hv1:BytesV wr.drew.heap.size w1 (.slice xa xn xc) (decB r))
   (ho1:w1.ownsRow W.heap.size 24 1 (.slice va s.length vc) s.length vs)
   (hg8:(w1.alloc (.cells #[.slice xa xn xc] 24)).grownBy w8 (Value.slice va s.length vc).ownBlock) (ho8:w8.ownsRow W.heap.size 24 1 (.slice b8 (s.length+1) c8) (s.length+1) (vs ++ [.slice xa xn xc]))
   (hg28:w8.heap[b2]?=some (.cells #[v0,.slice va s.length vc,v2,v3,v4] 27 (0,0))) :
   ∃ bad,G3J P b n br b2 v0 v2 v3 v4 W (s.length+1) bad (w8.setCell ⟨b2,1,none⟩ (.slice b8 (s.length+1) c8)):=by
 have hsz1:W.heap.size≤wr.heap.size:=ht.size
 have hrow:∀ k,(Value.slice va s.length vc).ownBlock=some k→W.heap.size≤k:=fun k hk=>owns_base ho1 k hk
 have hA:Touch (fun j=>j=br) wr (w1.alloc (.cells #[.slice xa xn xc] 24)):=((Touch.refl (fun j=>j=br) wr).drew.trans ht1).alloc _
 have h18:Touch (fun k=>(Value.slice va s.length vc).ownBlock=some k) w1 w8:=((Touch.refl (fun k=>(Value.slice va s.length vc).ownBlock=some k) w1).alloc _).grown hg8 (fun k hk=>.inl hk)
 have h8X:=touch_set w8 b2 1 (.slice b8 (s.length+1) c8)
 have hWX:Touch (fun k=>k=br∨k=b2) W (w8.setCell ⟨b2,1,none⟩ (.slice b8 (s.length+1) c8)):=by
   refine Touch.setCell ?_ _ _ (.inl (.inr rfl))
   exact (ht.trans (hA.weaken (fun _ _ h=>.inl h))).grown hg8 (fun k hk=>.inr (hrow k hk))
 have hr8:RdTo P (w8.setCell ⟨b2,1,none⟩ (.slice b8 (s.length+1) c8)) br r ((decB r).map (·.2)) :=
   (hr1.touch h18 (fun e=>by have:=hrow br e;omega) (fun k hk e=>by have:=hrow k e;have:=hPW k hk;omega)).setCell hg28 hP2 hne
 have hh:(w8.setCell ⟨b2,1,none⟩ (.slice b8 (s.length+1) c8)).heap[b2]?=some (.cells #[v0,.slice b8 (s.length+1) c8,v2,v3,v4] 27 (0,0)):=by
   rw [heap_setCell_same _ b2 1 _ _ _ hg28];rfl
 have hsucc:=decBs_succ s.length b
 rw [hd] at hsucc
 dsimp only at hsucc
 cases hdb:decB r with
 | none =>
   rw [hdb] at hr8 hsucc
   exact ⟨true,hWX,r,_,hr8,hh,⟨_,_,_,rfl⟩,(fun _=>decBs_none (by omega) b hsucc),fun h=>by cases h⟩
 | some y =>
   obtain ⟨l,r2⟩:=y
   rw [hdb] at hr8 hsucc hv1
   obtain ⟨a',e',hn⟩:=hv1
   cases e'
   refine ⟨false,hWX,r2,_,hr8,hh,⟨_,_,_,rfl⟩,(fun h=>by cases h),fun _=>⟨s ++ [l],hsucc,b8,c8,vs ++ [.slice xa l.length l.length],by simp,?_,?_⟩⟩
   · have:=owns_touch ho8 h8X (fun k hk e=>by have:=owns_base ho8 k hk;omega)
     simpa using this
   · have hn1:BBn W.heap.size w1 vs s:=hvs.touch ((Touch.refl (fun j=>j=br) wr).drew.trans ht1) (fun k hk _ e=>by omega)
     have hn2:BBn W.heap.size w1 (vs ++ [.slice xa l.length l.length]) (s ++ [l]):=hn1.snoc (hn.low hsz1) hvs.lt (fun k off e=>hn.base k off e)
     have hn8:BBn W.heap.size w8 (vs ++ [.slice xa l.length l.length]) (s ++ [l]):=hn2.touch h18 (fun k hk ⟨cur,hc⟩ e=>by
       obtain ⟨c2,h2⟩:=owns_block ho1 e
       rw [hc] at h2
       exact absurd (Obj.cells.inj (Option.some.inj h2)).2.1 (by decide))
     exact hn8.touch h8X (fun k hk _ e=>by omega)
set_option maxRecDepth 100000 in
set_option maxHeartbeats 8000000 in
theorem clo_get3 (b5 b4 br b2:Nat) (n:Nat) (v0 v2 v3 v4:Value) (b:List UInt8) (W:World) (h5:W.heap[b5]?=some (.cells #[.int .i64 n] 3 (0,0))) (h4:W.heap[b4]?=some (.cells #[.pointer (some ⟨br,0,none⟩)] 159 (0,0))) (h2:W.heap[b2]?=some (.cells #[v0,.slice none 0 0,v2,v3,v4] 27 (0,0)))
   (hP:¬ P b2) (hPW:∀ k,P k→k<W.heap.size) (hr:IsRd P W br b false) (hne:b2≠br) (hn5:b5≠br∧b5≠b2) (hn4:b4≠br∧b4≠b2) (hn:n<256) :
   Calls Tryz.prog 152 #[.pointer (some ⟨b5,0,none⟩),.pointer (some ⟨b4,0,none⟩),.pointer (some ⟨b2,0,none⟩)] W fun e W' => e=.returned (.tuple #[])∧∃ bad,G3J P b n br b2 v0 v2 v3 v4 W n bad W':=by
 have HP:=Lib.hid hP
 have HPW:=Lib.hid hPW
 have HNE:=Lib.hid hne
 have HN5:=Lib.hid hn5
 have HN4:=Lib.hid hn4
 have H5:=Lib.hid h5
 have H4:=Lib.hid h4
 have hbr:br<W.heap.size:=by obtain ⟨_,_,_,h,_⟩:=hr;exact lt_of_heap h
 have hb2:b2<W.heap.size:=lt_of_heap h2
 have H0:Hid (G3J P b n br b2 v0 v2 v3 v4 W 0 false W):=Lib.hid ⟨Touch.refl _ _,b,_,hr,h2,⟨_,_,_,rfl⟩,(fun h=>by cases h),fun _=>⟨[],rfl,SecV.nil _ _⟩⟩
 clear hPW h5 h4 h2 hP hr hne hn5 hn4
 obtain ⟨N,hN⟩:∃ N,N=n+1:=⟨_,rfl⟩
 have HNN:=Lib.hid hN
 clear hN
 go_enter Tryz.func152,Tryz.ntmps152
 go_wp2_with fail
 go_loopw [3] (fun i wr => ∃ j:Nat,∃ bad,j≤n∧i=.int .i64 j∧Hid (G3J P b n br b2 v0 v2 v3 v4 W j bad wr)) (fun i _=>N - (intOf i).toNat)
 case atStart=>exact ⟨0,false,Nat.zero_le _,rfl,H0⟩
 case round =>
   clear H0
   obtain ⟨j,bad,hj,rfl,HS⟩:=hrel
   obtain ⟨ht,r,v,hr,hg2,⟨va,vn,vc,rfl⟩,hbad,hst⟩:=HS.out
   have f5:wr.cell? ⟨b5,0,none⟩=some (.int .i64 n):=by rw [cell_of_block (ht.heap H5.out (by have:=HN5.out;omega))];rfl
   have f4:wr.cell? ⟨b4,0,none⟩=some (.pointer (some ⟨br,0,none⟩)):=by rw [cell_of_block (ht.heap H4.out (by have:=HN4.out;omega))];rfl
   have f0:wr.cell? ⟨br,1,none⟩=some (.bool bad):=by obtain ⟨_,_,_,h,_⟩:=hr;rw [cell_of_block h];rfl
   by_cases hlt:j<n
   · have hdl:decide ((j:Int)<(n:Int))=true:=decide_eq_true (by omega)
     cases bad with
     | true =>
       have HF:Hid (G3J P b n br b2 v0 v2 v3 v4 W n true wr):=Lib.hid ⟨ht,r,_,hr,hg2,⟨_,_,_,rfl⟩,hbad,fun h=>by cases h⟩
       clear hst hbad ht hr hg2
       go_wp2_with fail
       go_end0
       exact ⟨rfl,true,HF.out⟩
     | false =>
       obtain ⟨s,hd,a,c,vs,hv,ho,hvs⟩:=hst rfl
       cases hv
       obtain rfl:=decBs_length hd
       have HD:=Lib.hid hd
       have HT:=Lib.hid ht
       have HG2:=Lib.hid hg2
       have HO:=Lib.hid ho
       have HVS:=Lib.hid hvs
       have hrd:IsRd P wr.drew br r false:=hr.below (Below.refl _ _).drew
       have HR:=Lib.hid hrd
       have k4:wr.drew.cell? ⟨b4,0,none⟩=some (.pointer (some ⟨br,0,none⟩)):=f4
       have k1:wr.drew.cell? ⟨b2,1,none⟩=some (.slice va s.length vc):=by
         have:wr.cell? ⟨b2,1,none⟩=some (.slice va s.length vc):=by rw [cell_of_block hg2];rfl
         exact this
       have hszw:W.heap.size≤wr.heap.size:=ht.size
       have hsn:s.length≤256:=by omega
       clear hst hbad ht hr hg2 hd ho hvs hrd
       go_wp2_with fail
       go_region_law (first
         | (go_simp;go_at_call 153;refine (rbytes_ok br r wr.drew HR.out).mono ?_;rintro e w1 ⟨vb,rfl,ht1,hr1,hv1⟩
            obtain ⟨xa,xn,xc,rfl⟩:=hv1.one
            have hg21:=ht1.heap (show wr.drew.heap[b2]?=_ from HG2.out) HNE.out
            have q1:w1.cell? ⟨b2,1,none⟩=some (.slice va s.length vc):=by rw [cell_of_block hg21];rfl
            have q2:∀ o,(w1.alloc o).cell? ⟨b2,1,none⟩=some (.slice va s.length vc):=fun o=>cell_alloc q1 o
            have HO1:=Lib.hid (owns_touch (S:=fun j=>j=br) (w:=wr.drew) HO.out ht1 (fun k hk=>by have:=owns_base HO.out k hk;omega))
            have HG21:=Lib.hid hg21
            have HT1:=Lib.hid ht1
            have HR1:=Lib.hid hr1
            have HV1:=Lib.hid hv1
            clear hg21 ht1 hr1 hv1)
         | (refine step_append_any rowBs rfl (.tmp 17) (.tmp 20) (by rfl) W.heap.size (.slice va s.length vc) s.length vs (by simp [Act.eval,Act.put]) (HO1.out.alloc _) (some ⟨w1.heap.size,0,none⟩) 1 1 [.slice xa xn xc] (by simp [Act.eval,Act.put]) rfl (At.one _ _ _) (one_cell _ rfl) (by unfold maxLen;omega) (by omega) (by have:=HT1.out.size;have h2:wr.drew.heap.size=wr.heap.size:=rfl;simp;omega) ?_
            intro b8 c8 w8 hown8 hg8 hat8
            have hg28:w8.heap[b2]?=some (.cells #[v0,.slice va s.length vc,v2,v3,v4] 27 (0,0)):=(hg8.block b2 (by simp;have:=lt_of_heap HG21.out;omega) (fun e=>by have:=owns_base HO1.out b2 e.symm;omega)).trans ((Below.heap_alloc _ _ _ (lt_of_heap HG21.out)).trans HG21.out)
            have q3:w8.cell? ⟨b2,1,none⟩=some (.slice va s.length vc):=by rw [cell_of_block hg28];rfl
            have q4:w8.frozen? ⟨b2,1,none⟩=false:=blk_free hg28
            have HG28:=Lib.hid hg28
            have HO8:=Lib.hid hown8
            have HGR8:=Lib.hid hg8
            clear hg28 hown8 hg8 hat8)
         | fail)
       all_goals
         obtain ⟨bad',hg⟩:=g3_step hlt HPW.out hbr hb2 HNE.out HP.out HT.out HD.out HO.out HVS.out HT1.out HR1.out HV1.out HO1.out HGR8.out HO8.out HG28.out
         have HG:=Lib.hid hg
         clear hg q1 q2 q3 q4 k1 k4 f5 f4 f0
         go_wp2_with fail
         go_roundw
         case rel=>exact ⟨s.length+1,bad',by omega,by go_num,HG⟩
         case measure=>have:=HNN.out;simp [intOf];omega
   · have hjn:j=n:=by omega
     subst hjn
     clear hst hbad ht hr hg2
     go_wp2_with fail
     go_end0
     exact ⟨rfl,bad,HS.out⟩
end
end Go.Proofs.YtgbikngicidbkaaGreatDoor
