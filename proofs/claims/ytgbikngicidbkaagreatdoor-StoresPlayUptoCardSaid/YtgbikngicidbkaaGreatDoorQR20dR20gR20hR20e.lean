/- The document's stores (salesroomref20): a config out of bytes: what its reading has,between two rounds;conditions: those typed. -/
import Derived.Test.YtgbikngicidbkaaGreatDoorQR20aR20bR20pR20c
import Derived.Test.YtgbikngicidbkaaGreatDoorQR1GetN
import Derived.Test.YtgbikngicidbkaaGreatDoorQR19SR19TR19PR19WSameS
import Derived.Test.YtgbikngicidbkaaGreatDoorQGStRec
namespace Go.Proofs.YtgbikngicidbkaaGreatDoor
open Go.RowKit
set_option linter.unusedVariables false
set_option linter.unusedSimpArgs false
set_option maxRecDepth 100000
theorem isB_string {w:World} {a:Option Addr} {n c:Nat} {l:List UInt8} (h:IsB w a n c l):∀ dst,Tryz.prog.underlying dst=some .string→(convert 24 dst (.slice a n c)).run Tryz.prog w=.ok (.string ⟨l.toArray⟩) w:=by
 obtain ⟨rfl,h1,h2,⟨rfl,_⟩ | ⟨b,off,rfl,_,hc⟩⟩:=h
 · intro dst hd
   rw [run_convert_bytes_string w 24 dst 5 _ _ c Tryz.underlying24 Tryz.underlying5 hd]
   cases a <;> simp [Conv.bytesToString,loadCells]
   all_goals rfl
 · have:=run_convert_bytes_arg (P:=Tryz.prog) w 24 5 Tryz.underlying24 Tryz.underlying5 b off l.length c (l.map fun u=>(u.toNat:Int)) (by simp) (fun i hi=>by
     rw [hc i hi]
     simp [List.getD,List.getElem?_map,List.getElem?_eq_getElem hi])
   intro dst hd
   rw [this dst hd]
   have e:strOfNums (l.map fun u=>(u.toNat:Int))=⟨l.toArray⟩:=by
     unfold strOfNums
     rw [List.map_map]
     congr 1
     have:(l.map ((fun n:Int=>UInt8.ofNat n.toNat) ∘ fun u:UInt8=>(u.toNat:Int)))=l:=by
       conv=>rhs;rw [← List.map_id l]
       exact List.map_congr_left fun x _=>by simp
     rw [this]
   rw [e]
theorem slice_from {b off n c:Nat} {w:World} {l:List UInt8} (h:IsB w (some ⟨b,off,none⟩) n c l) (k:Nat) (kI:Int) (hkI:kI=(k:Int)) (hk:k≤l.length):∃ p:Addr,(∀ W,(Instr.slice 24 (.slice (some ⟨b,off,none⟩) n c) (some (.int .i64 kI)) none none).run Tryz.prog W=.ok (.slice (some p) (n - k) (c - k)) W) ∧
   ∀ (W:World) (P:Nat→Prop),IsBp W P (some ⟨b,off,none⟩) n c l→IsBp W P (some p) (n - k) (c - k) (l.drop k):=by
 subst hkI
 refine ⟨if c=k then ⟨b,off,none⟩ else ⟨b,off+k,none⟩,fun W => ?_,fun W P hp => ?_⟩
 · have hn:k≤n:=by rw [h.1];exact hk
   have:=run_slice_l (P:=Tryz.prog) W 24 (some ⟨b,off,none⟩) n c Tryz.underlying24 .i64 (k:Int) (by omega) (by omega)
   rw [this]
   have hs:(sizeOf (Tryz.prog.elem 24)).run Tryz.prog W=.ok 1 W:=by first | rfl | kernel_rfl
   rw [hs]
   simp only [Result.andThen,sliced,Int.toNat_natCast]
   by_cases hc:c=k
   · rw [if_pos hc,if_pos hc]
   · rw [if_neg hc,if_neg hc]
     simp [Addr.add]
 · obtain ⟨hB,hP⟩:=hp
   by_cases hc:c=k
   · have hkl:k=l.length:=by have:=hB.2.1;omega
     rw [if_pos hc,List.drop_eq_nil_of_le (by omega)]
     exact ⟨⟨by have:=hB.1;simp;omega,by simp,by have:=hB.2.2.1;omega,.inl ⟨rfl,fun h=>by cases h⟩⟩,fun _ _ _ h=>absurd rfl h⟩
   · rw [if_neg hc]
     exact ⟨hB.drop k hk,fun b' off' e hne=>by cases e;exact hP b off rfl (fun e=>hne (by rw [e];simp))⟩
def TyC (w:World) (k:Nat):Prop:=∃ (cur:Array Value) (t:TypeId) (fz:Nat × Nat),w.heap[k]?=some (.cells cur t fz)∧(t=5∨t=24∨t=3)
theorem TyC.touch {S:Nat→Prop} {w w':World} {k:Nat} (h:TyC w k) (ht:Touch S w w') (hs:¬ S k):TyC w' k:=by
 obtain ⟨cur,t,fz,h1,h2⟩:=h
 exact ⟨cur,t,fz,ht.heap h1 hs,h2⟩
theorem TyC.below {w w':World} {k:Nat} (h:TyC w k) (hb:Below w.heap.size w w'):TyC w' k:=h.touch (Touch.of_below (S:=fun _=>False) hb) id
theorem TyC.own {B:Nat} {w:World} {e:TypeId} {v:Value} {n k:Nat} {xs:List Value} (h:w.ownsRow B e 1 v n xs) (hk:v.ownBlock=some k) (he:e=5∨e=24∨e=3):B≤k∧TyC w k:=by
 obtain ⟨cur,hc⟩:=owns_block h hk
 exact ⟨owns_base h k hk,cur,_,_,hc,he⟩
def CfT (B:Nat) (w:World) (y:StA) (c:StC):Prop:=IsCf w (fun k=>B≤k∧TyC w k) y c
theorem CfT.cf {B:Nat} {w:World} {y:StA} {c:StC} (h:CfT B w y c):IsCf w (fun k=>B≤k) y c:=IsCf.imp h (fun k hk=>hk.1)
theorem CfT.touch {B:Nat} {S:Nat→Prop} {w w':World} {y:StA} {c:StC} (h:CfT B w y c) (ht:Touch S w w') (hs:∀ k,B≤k→TyC w k→¬ S k):CfT B w' y c :=
 (IsCf.touch h ht (fun k hk=>hs k hk.1 hk.2)).imp (fun k hk=>⟨hk.1,hk.2.touch ht (hs k hk.1 hk.2)⟩)
theorem CfT.below {B:Nat} {w w':World} {y:StA} {c:StC} (h:CfT B w y c) (hb:Below w.heap.size w w'):CfT B w' y c:=h.touch (Touch.of_below (S:=fun _=>False) hb) (fun _ _ _ h=>h)
theorem CfT.lower {B D:Nat} {w:World} {y:StA} {c:StC} (h:CfT B w y c) (hd:D≤B):CfT D w y c:=IsCf.imp h (fun k hk=>⟨Nat.le_trans hd hk.1,hk.2⟩)
theorem TyC.lt {w:World} {k:Nat} (h:TyC w k):k<w.heap.size:=by
 obtain ⟨cur,t,fz,h1,_⟩:=h
 exact lt_of_heap h1
theorem CfT.new {B:Nat} {S:Nat→Prop} {w w1 w2:World} {y:StA} {c:StC} (h:CfT B w y c) (hb:Below w.heap.size w w1) (ht:Touch S w1 w2) (hs:∀ k,B≤k→k<w.heap.size→¬ S k):CfT B w2 y c :=
 ((IsCf.below h hb).touch ht (fun k hk=>hs k hk.1 hk.2.lt)).imp (fun k hk=>⟨hk.1,(hk.2.below hb).touch ht (hs k hk.1 hk.2.lt)⟩)
def BBo (B:Nat) (w:World) (vs:List Value) (s:List (List UInt8)):Prop:=vs.length=s.length∧∀ i (h:i<s.length),∃ a c,vs[i]?=some (.slice a s[i].length c)∧w.ownsRow B 5 1 (.slice a s[i].length c) s[i].length (bcells s[i])
theorem BBo.nil (B:Nat) (w:World):BBo B w [] []:=⟨rfl,fun i h=>by simp at h⟩
theorem BBo.touch {B:Nat} {S:Nat→Prop} {w w':World} {vs:List Value} {s:List (List UInt8)} (h:BBo B w vs s) (ht:Touch S w w') (hs:∀ k,B≤k→(∃ cur,w.heap[k]?=some (.cells cur 5 (0,0)))→¬ S k):BBo B w' vs s :=
 ⟨h.1,fun i hi=>by
   obtain ⟨a,c,h1,h2⟩:=h.2 i hi
   exact ⟨a,c,h1,owns_touch h2 ht (fun k hk=>hs k (owns_base h2 k hk) (owns_block h2 hk))⟩⟩
theorem BBo.snoc {B:Nat} {w:World} {vs:List Value} {s:List (List UInt8)} (h:BBo B w vs s) {a:Option Addr} {c:Nat} {l:List UInt8} (hl:w.ownsRow B 5 1 (.slice a l.length c) l.length (bcells l)):BBo B w (vs ++ [.slice a l.length c]) (s ++ [l]):=by
 refine ⟨by simp [h.1],fun i hi => ?_⟩
 by_cases hlt:i<s.length
 · obtain ⟨a',c',h1,h2⟩:=h.2 i hlt
   refine ⟨a',c',?_,?_⟩
   · rw [List.getElem?_append_left (by rw [h.1];exact hlt),List.getElem_append_left hlt];exact h1
   · rw [List.getElem_append_left hlt];exact h2
 · have:i=s.length:=by simp at hi;omega
   subst this
   refine ⟨a,c,?_,?_⟩
   · rw [List.getElem?_append_right (by rw [h.1];exact Nat.le_refl _),h.1,Nat.sub_self,List.getElem_append_right (Nat.le_refl _)];simp
   · rw [List.getElem_append_right (Nat.le_refl _)];simpa using hl
structure GcJ (B n5 N:Nat) (b2:List UInt8) (v0:Value) (w0:World) (j:Nat) (v1 v2 v3:Value) (ss:List (List UInt8)) (rest:List UInt8) (W:World):Prop where
 bel:Touch (fun k=>k=n5) w0 W
 blk:W.heap[n5]?=some (.cells #[v0,v1,v2,v3,.int .u64 0] 27 (0,0))
 dec:decBs j b2=some (ss,rest)
 sec:∃ a c vs,v1=.slice a (min j N) c∧W.ownsRow B 24 1 v1 (min j N) vs∧BBo B W vs (ss.take N)
 adm:∃ a n c,v2=.slice a n c∧(N<j→n=(ss.getD N []).length∧W.ownsRow B 5 1 v2 n (bcells (ss.getD N [])))
 aud:∃ a n c,v3=.slice a n c∧(N+1<j→n=(ss.getD (N+1) []).length∧W.ownsRow B 5 1 v3 n (bcells (ss.getD (N+1) [])))
theorem decP_cons (x:UInt8) (t:List UInt8):decP (x :: t)=match decL t with | none=>none | some (l,r)=>if r=[] then some (x.toNat,l) else none:=by
 unfold decP
 have:decN 1 (x :: t)=some (x.toNat,t):=by simp [decN,numOf]
 rw [this]
 rfl
theorem phaseC_none {n q:Nat} {b:List UInt8} (hq:q≠0) (h:decP b=none):phaseC n q b=(0,[],false):=by
 unfold phaseC;rw [if_neg hq,h]
theorem phaseC_bad {n q p:Nat} {b:List UInt8} {l:List Int} (hq:q≠0) (h:decP b=some (p,l)) (ht:turnsC n p l=false):phaseC n q b=(0,[],false):=by
 unfold phaseC;rw [if_neg hq,h];dsimp only;rw [ht];rfl
theorem phaseC_good {n q p:Nat} {b:List UInt8} {l:List Int} (hq:q≠0) (h:decP b=some (p,l)) (ht:turnsC n p l=true):phaseC n q b=(p,l,true):=by
 unfold phaseC;rw [if_neg hq,h];dsimp only;rw [ht];rfl
theorem isB_at0 {w:World} {ab ao n c:Nat} {x:UInt8} {t:List UInt8} (h:IsB w (some ⟨ab,ao,none⟩) n c (x :: t)):w.cell? ⟨ab,ao,none⟩=some (.int .u8 x.toNat):=by
 rcases h.2.2.2 with ⟨h0,_⟩ | ⟨b',off',h0,_,hc⟩
 · cases h0
 · cases h0
   exact hc 0 (by simp)
set_option maxHeartbeats 8000000 in
theorem rphase_any (ts B rd rl rc:Nat) (x:StA) (c:StC) (R:Dsk) (w:World) (h:IsRS w ts B rd rl rc x c R) (hs:c.s.length≤1000) :
   Calls Tryz.prog 78 #[.pointer (some ⟨ts,0,none⟩)] w fun e w' => ∃ a m c',e=.returned (.tuple #[.int .u8 (phD c.s.length R).1,.slice a m c',.bool (phD c.s.length R).2.2])∧Below w.heap.size w w'∧IsI w' a m c' (phD c.s.length R).2.1:=by
 obtain ⟨f0,-,f2⟩:=h.f
 have H:=Lib.hid h
 have HG:=Lib.hid (rget19_any B rd rl rc R ((12:Nat):Int) w h.disk)
 obtain ⟨q,hq⟩:∃ q,q=(R.get ((12:Nat):Int)).1:=⟨_,rfl⟩
 obtain ⟨b,hb⟩:∃ b,b=(R.get ((12:Nat):Int)).2.1:=⟨_,rfl⟩
 obtain ⟨z,hz⟩:∃ z,z=(R.get ((12:Nat):Int)).2.2:=⟨_,rfl⟩
 have HPH:Hid (phD c.s.length R=phaseC c.s.length q b):=Lib.hid (by rw [hq,hb];rfl)
 rw [← hq,← hb,← hz] at HG
 clear hq hb hz h
 go_enter Tryz.func78,Tryz.ntmps78
 go_wp2_with fail
 refine HG.out.mono ?_;rintro e w1 ⟨ba,bm,bc,rfl,hb1,hi1⟩
 clear HG
 obtain rfl:=hi1.1
 have HB1:=Lib.hid hb1
 have HI1:=Lib.hid hi1
 have f2':w1.cell? ⟨ts,2,none⟩=some (.slice x.sa c.s.length x.sc):=(H.out.below hb1).f.2.2
 have hbm:bc≤9223372036854775807:=by have:=hi1.2.2.1;unfold maxLen at this;omega
 have hbl:=hi1.2.1
 clear hb1 hi1 f0 f2
 by_cases hq:q=0
 · have d0:((q:Int) == 0)=true:=by rw [beq_iff_eq];omega
   have HR:Hid (phD c.s.length R=(0,[],true)):=Lib.hid (by rw [HPH.out,hq];rfl)
   clear hq
   go_wp2_with fail
   go_ret3
   rw [HR.out]
   exact ⟨none,0,0,rfl,HB1.out,IsI.nil _⟩
 have d0:((q:Int) == 0)=false:=by rw [beq_eq_false_iff_ne];omega
 have HQ:=Lib.hid hq
 clear hq
 have HBAD:Hid (phD c.s.length R=(0,[],false)→∃ (a:Option Addr) (m c':Nat),Ending.returned (.tuple #[.int .u8 0,.slice none 0 0,.bool false])=.returned (.tuple #[.int .u8 (phD c.s.length R).1,.slice a m c',.bool (phD c.s.length R).2.2])∧Below w.heap.size w w1∧IsI w1 a m c' (phD c.s.length R).2.1):=Lib.hid (fun e=>by rw [e];exact ⟨none,0,0,rfl,HB1.out,IsI.nil _⟩)
 by_cases h2:b.length<2
 · have d1:decide ((b.length:Int)<2)=true:=decide_eq_true (by omega)
   have HR:Hid (phD c.s.length R=(0,[],false)):=Lib.hid (by
     rw [HPH.out]
     refine phaseC_none HQ.out ?_
     cases b with
     | nil=>rfl
     | cons y t =>
       have:t=[]:=List.eq_nil_of_length_eq_zero (by simp at h2;omega)
       rw [decP_cons,this];rfl)
   clear h2
   go_wp2_with fail
   go_ret3
   exact HBAD.out HR.out
 have d1:decide ((b.length:Int)<2)=false:=decide_eq_false (by omega)
 obtain ⟨ab,ao,rfl⟩:=HI1.out.nonnil (by omega)
 obtain ⟨p,HP1,HP2⟩:=slice_from HI1.out 1 1 rfl (by omega)
 have HIP:=Lib.hid (HP2 w1 (fun _=>True) ⟨HI1.out,fun _ _ _ _=>trivial⟩).1
 obtain ⟨y,t,hyt⟩:∃ y t,b=y :: t:=by cases b with | nil=>simp at h2 | cons y t=>exact ⟨y,t,rfl⟩
 have HT:Hid (b.drop 1=t):=Lib.hid (by rw [hyt];rfl)
 rw [HT.out] at HIP
 have HD:Hid (decP b=match decL t with | none=>none | some (l,r)=>if r=[] then some (y.toNat,l) else none):=Lib.hid (by rw [hyt,decP_cons])
 have c0:w1.cell? ⟨ab,ao,none⟩=some (.int .u8 y.toNat):=by have:=HI1.out;rw [hyt] at this;exact isB_at0 this
 have hbt:b.length=t.length+1:=by rw [hyt];rfl
 have HBT:=Lib.hid hbt
 have hpos:0<b.length:=by omega
 have hy:=y.toNat_lt
 have h2':2≤b.length:=by omega
 clear hyt HP2 HT HI1 hbt h2
 generalize y.toNat=yn at HD c0 hy
 by_cases h3:3<yn
 · have d2:decide (3<yn)=true:=decide_eq_true h3
   have d2':decide ((3:Int)<(yn:Int))=true:=decide_eq_true (by omega)
   have HR:Hid (phD c.s.length R=(0,[],false)):=Lib.hid (by
     rw [HPH.out]
     cases hd:decP b with
     | none=>exact phaseC_none HQ.out hd
     | some z =>
       obtain ⟨p',l'⟩:=z
       refine phaseC_bad HQ.out hd ?_
       have hd2:=HD.out
       rw [hd] at hd2
       cases hl:decL t with
       | none=>rw [hl] at hd2;cases hd2
       | some v =>
         obtain ⟨l2,r2⟩:=v
         rw [hl] at hd2
         dsimp only at hd2
         split at hd2
         · obtain ⟨rfl,rfl⟩:=Prod.mk.inj (Option.some.inj hd2)
           unfold turnsC
           rw [if_neg (by omega),decide_eq_false (by omega)];rfl
         · cases hd2)
   clear h3
   go_wp2_with fail
   go_ret3
   exact HBAD.out HR.out
 have d2:decide (3<yn)=false:=decide_eq_false h3
 have d2':decide ((3:Int)<(yn:Int))=false:=decide_eq_false (by omega)
 cases hdl:decL t with
 | none =>
   have HR:Hid (phD c.s.length R=(0,[],false)):=Lib.hid (by
     rw [HPH.out]
     exact phaseC_none HQ.out (by rw [HD.out,hdl]))
   go_wp2_with fail
   refine (rgetlist_bad (some p) (b.length - 1) (bc - 1) t w1 HIP.out hdl).mono ?_;rintro e w2 ⟨rfl,rfl⟩
   clear hdl
   go_wp2_with fail
   go_ret3
   exact HBAD.out HR.out
 | some v =>
   obtain ⟨l,r⟩:=v
   obtain ⟨hl255,hlt⟩:=decL_len hdl
   go_wp2_with fail
   refine (rgetlist_ok (some p) (b.length - 1) (bc - 1) t l r w1 HIP.out hdl).mono ?_;rintro e w2 ⟨la,lc,rfl,hb2,ho2,-,hr⟩
   have HBAD2:Hid (phD c.s.length R=(0,[],false)→∃ (a:Option Addr) (m c':Nat),Ending.returned (.tuple #[.int .u8 0,.slice none 0 0,.bool false])=.returned (.tuple #[.int .u8 (phD c.s.length R).1,.slice a m c',.bool (phD c.s.length R).2.2])∧Below w.heap.size w w2∧IsI w2 a m c' (phD c.s.length R).2.1):=Lib.hid (fun e=>by rw [e];exact ⟨none,0,0,rfl,HB1.out.trans (hb2.mono HB1.out.size),IsI.nil _⟩)
   have HB2:=Lib.hid (HB1.out.trans (hb2.mono HB1.out.size))
   have HIL:=Lib.hid (isI_of_owns ho2.2 ho2.1)
   have c2:w2.cell? ⟨ab,ao,none⟩=some (.int .u8 yn):=cell_later hb2 c0
   have f2'':w2.cell? ⟨ts,2,none⟩=some (.slice x.sa c.s.length x.sc):=cell_later hb2 f2'
   have HDL:=Lib.hid hdl
   obtain ⟨K,hK⟩:∃ K,K=1+4*l.length:=⟨_,rfl⟩
   rw [← hK] at hr hlt ⊢
   have hKm:K≤1021:=by omega
   clear hb2 ho2 hdl c0 f2' HP1 HBAD HB1 HIP hK
   by_cases hrn:K=t.length
   · have d3:((K:Int)+1 == (b.length:Int))=true:=by rw [beq_iff_eq];have:=HBT.out;omega
     have d3':((K:Int)+1 != (b.length:Int))=false:=by rw [bne,d3];rfl
     have HRN:Hid (r=[]):=Lib.hid (by rw [hr];exact List.drop_eq_nil_of_le (by omega))
     have HDP:Hid (decP b=some (yn,l)):=Lib.hid (by rw [HD.out,HDL.out];dsimp only;rw [if_pos HRN.out])
     clear hrn hr
     by_cases hy2:yn=2
     · have d4:((yn:Int) == 2)=true:=by rw [beq_iff_eq];omega
       have d4':((yn:Int) != 2)=false:=by rw [bne,d4];rfl
       have HT2:Hid (turnsC c.s.length yn l=ordC c.s.length l):=Lib.hid (by unfold turnsC;rw [if_pos hy2])
       have HY2:=Lib.hid hy2
       clear hy2
       go_wp2_with fail
       refine (rorder_any la l.length lc c.s.length l w2 HIL.out (by omega)).mono ?_;rintro e w3 ⟨rfl,rfl⟩
       cases ho:ordC c.s.length l with
       | false =>
         have HR:Hid (phD c.s.length R=(0,[],false)):=Lib.hid (by rw [HPH.out];exact phaseC_bad HQ.out HDP.out (HT2.out.trans ho))
         clear ho
         go_wp2_with fail
         go_ret3
         exact HBAD2.out HR.out
       | true =>
         have HR:Hid (phD c.s.length R=(yn,l,true)):=Lib.hid (by rw [HPH.out];exact phaseC_good HQ.out HDP.out (HT2.out.trans ho))
         clear ho
         go_wp2_with fail
         go_ret3
         rw [HR.out]
         exact ⟨la,l.length,lc,rfl,HB2.out,HIL.out⟩
     · have d4:((yn:Int) == 2)=false:=by rw [beq_eq_false_iff_ne];omega
       have d4':((yn:Int) != 2)=true:=by rw [bne,d4];rfl
       have HT2:Hid (turnsC c.s.length yn l=l.isEmpty):=Lib.hid (by unfold turnsC;rw [if_neg hy2,decide_eq_true (by omega)];rfl)
       clear hy2
       by_cases hl0:0<l.length
       · have d5:decide ((0:Int)<(l.length:Int))=true:=decide_eq_true (by omega)
         have HR:Hid (phD c.s.length R=(0,[],false)):=Lib.hid (by rw [HPH.out];exact phaseC_bad HQ.out HDP.out (HT2.out.trans (by cases l with | nil=>simp at hl0 | cons _ _=>rfl)))
         go_wp2_with fail
         go_ret3
         exact HBAD2.out HR.out
       · have d5:decide ((0:Int)<(l.length:Int))=false:=decide_eq_false (by omega)
         have HR:Hid (phD c.s.length R=(yn,l,true)):=Lib.hid (by rw [HPH.out];exact phaseC_good HQ.out HDP.out (HT2.out.trans (by cases l with | nil=>rfl | cons _ _=>simp at hl0)))
         go_wp2_with fail
         go_ret3
         rw [HR.out]
         exact ⟨la,l.length,lc,rfl,HB2.out,HIL.out⟩
   · have d3:((K:Int)+1 == (b.length:Int))=false:=by rw [beq_eq_false_iff_ne];have:=HBT.out;omega
     have d3':((K:Int)+1 != (b.length:Int))=true:=by rw [bne,d3];rfl
     have HR:Hid (phD c.s.length R=(0,[],false)):=Lib.hid (by
       rw [HPH.out]
       refine phaseC_none HQ.out ?_
       rw [HD.out,HDL.out]
       dsimp only
       rw [if_neg]
       rw [hr]
       intro e
       have:=congrArg List.length e
       rw [List.length_drop] at this
       simp at this
       omega)
     clear hrn hr
     go_wp2_with fail
     go_ret3
     exact HBAD2.out HR.out
theorem decN_one (x:UInt8) (t:List UInt8):decN 1 (x :: t)=some (x.toNat,t):=by simp [decN,numOf]
theorem decR_mid {b:List UInt8} (h:6≤b.length):decR b=match decL (b.drop 5) with | none=>none | some (l,r)=>if r=[] then some (numOf (b.take 4),(b[4]'(by omega)).toNat,l) else none:=by
 have h1:decN 4 b=some (numOf (b.take 4),b.drop 4):=decN_some (by omega)
 have h2:decN 1 (b.drop 4)=some ((b[4]'(by omega)).toNat,b.drop 5):=by
   have e:b.drop 4=b[4]'(by omega) :: b.drop 5:=List.drop_eq_getElem_cons (show 4<b.length by omega)
   rw [e]
   exact decN_one _ _
 unfold decR
 rw [h1]
 dsimp only
 rw [h2]
 rfl
theorem decR_short {b:List UInt8} (h:b.length<6):decR b=none:=by
 unfold decR
 by_cases h4:b.length<4
 · rw [decN_none h4]
 · rw [decN_some (by omega)]
   dsimp only
   by_cases h5:(b.drop 4).length<1
   · rw [decN_none h5]
   · rw [decN_some (by omega)]
     dsimp only
     have:(b.drop 4).drop 1=[]:=List.drop_eq_nil_of_le (by simp;omega)
     rw [this]
     rfl
theorem recC_none {items q:Nat} {b:List UInt8} (hq:q≠0) (h:decR b=none):recC items q b=(⟨0,false,[]⟩,false):=by
 unfold recC;rw [if_neg hq,h]
theorem recC_bad {items q s hh:Nat} {b:List UInt8} {l:List Int} (hq:q≠0) (h:decR b=some (s,hh,l)) (hb:¬ (hh≤1∧fitsC items ⟨s,hh == 1,l⟩=true)):recC items q b=(⟨0,false,[]⟩,false):=by
 unfold recC;rw [if_neg hq,h];dsimp only;rw [if_neg hb]
theorem recC_good {items q s hh:Nat} {b:List UInt8} {l:List Int} (hq:q≠0) (h:decR b=some (s,hh,l)) (h1:hh≤1) (hf:fitsC items ⟨s,hh == 1,l⟩=true):recC items q b=(⟨s,hh == 1,l⟩,true):=by
 unfold recC;rw [if_neg hq,h];dsimp only;rw [if_pos ⟨h1,hf⟩]
def RRec (w:World) (X:StR × Bool) (e:Ending) (w':World):Prop:=∃ (a:Option Addr) (m c':Nat),e=.returned (.tuple #[.agg #[.int .u32 X.1.seq,.bool X.1.stands,.slice a m c'],.bool X.2])∧Below w.heap.size w w'∧OwI1 w.heap.size w' a m c' X.1.bid
set_option maxHeartbeats 8000000 in
theorem rrecord_any (ts B rd rl rc:Nat) (x:StA) (c:StC) (R:Dsk) (k:Nat) (w:World) (h:IsRS w ts B rd rl rc x c R) (hk:k≤1000) (hr:c.r.length≤1000000) :
   Calls Tryz.prog 79 #[.pointer (some ⟨ts,0,none⟩),.int .i64 k] w (RRec w (rcD c.r.length R k)):=by
 have hb0:Below w.heap.size w (w.alloc (.cells #[.int .u32 0,.bool false,.slice none 0 0] 60)):=(Below.refl _ _).alloc (Nat.le_refl _) _
 have hv2:=heap_new w (.cells #[.int .u32 0,.bool false,.slice none 0 0] 60 (0,0))
 have hst:=h.below hb0
 obtain ⟨X,hX⟩:∃ X,X=rcD c.r.length R k:=⟨_,rfl⟩
 have HX:=Lib.hid hX
 rw [← hX]
 clear h hX
 have hpos:24+12*(k:Int)=((12*(2+k):Nat):Int):=by push_cast;omega
 have HPOS:=Lib.hid hpos
 clear hpos
 go_enter Tryz.func79,Tryz.ntmps79
 have f0:=hst.f.1
 go_wp2_with fail
 generalize w.alloc (.cells #[.int .u32 0,.bool false,.slice none 0 0] 60)=w0 at hb0 hv2 hst f0 ⊢
 rw [HPOS.out]
 have HG:=Lib.hid (rget19_any B rd rl rc R ((12*(2+k):Nat):Int) w0 hst.disk)
 obtain ⟨q,hq⟩:∃ q,q=(R.get ((12*(2+k):Nat):Int)).1:=⟨_,rfl⟩
 obtain ⟨b,hb⟩:∃ b,b=(R.get ((12*(2+k):Nat):Int)).2.1:=⟨_,rfl⟩
 obtain ⟨z,hz⟩:∃ z,z=(R.get ((12*(2+k):Nat):Int)).2.2:=⟨_,rfl⟩
 have HRC:Hid (X=recC c.r.length q b):=Lib.hid (by rw [HX.out,hq,hb];rfl)
 rw [← hq,← hb,← hz] at HG
 have H:=Lib.hid hst
 have HB0:=Lib.hid hb0
 have HV:=Lib.hid hv2
 clear hq hb hz hst HX hb0 hv2 HPOS
 refine HG.out.mono ?_;rintro e w1 ⟨ba,bm,bc,rfl,hb1,hi1⟩
 clear HG
 obtain rfl:=hi1.1
 have H1:=Lib.hid (H.out.below hb1)
 have HB1:=Lib.hid (HB0.out.trans (hb1.mono HB0.out.size))
 have HV1:=Lib.hid (below_heap hb1 HV.out (lt_of_heap HV.out))
 have HI1:=Lib.hid hi1
 have hbm:bc≤9223372036854775807:=by have:=hi1.2.2.1;unfold maxLen at this;omega
 have hbl:=hi1.2.1
 have hn0:w.heap.size<w1.heap.size:=lt_of_heap HV1.out
 clear hb1 hi1 f0 H HV HB0
 have HZ:Hid (∀ (w4:World),X.1=⟨0,false,[]⟩→Below w.heap.size w w4→RRec w X (.returned (.tuple #[.agg #[.int .u32 0,.bool false,.slice none 0 0],.bool X.2])) w4):=Lib.hid (fun w4 e hb=>⟨none,0,0,by rw [e];rfl,hb,by rw [e];exact OwI1.nil _ _⟩)
 by_cases hq:q=0
 · have d0:((q:Int) == 0)=true:=by rw [beq_iff_eq];omega
   have HR:Hid (X=(⟨0,false,[]⟩,true)):=Lib.hid (by rw [HRC.out,hq];rfl)
   clear hq
   go_wp2_with (first
     | (refine wpList_store_whole rfl 60 (.tmp 4) (.tmp 29) rfl w.heap.size [.int .u32 0,.bool false,.slice none 0 0] _ _ HV1.out rfl rfl rfl info_rec (rec_one _ _ _ _ _) ?_;intro w4 ht4 hg4)
     | fail)
   refine bodyPost_ret (results_cell_tmp rfl _ _ w.heap.size 0 rfl [.int .u32 0,.bool false,.slice none 0 0] _ (rangeAt_row hg4) Tryz.underlying60 rfl info_rec) rfl ?_
   have:=HZ.out w4 (by rw [HR.out]) (HB1.out.trans (ht4.below HB1.out.size (fun k hk e=>by omega)))
   rw [HR.out] at this ⊢
   exact this
 have d0:((q:Int) == 0)=false:=by rw [beq_eq_false_iff_ne];omega
 have HQ:=Lib.hid hq
 clear hq
 have HBAD:Hid (X=(⟨0,false,[]⟩,false)→∀ (w4:World),Below w.heap.size w w4→RRec w X (.returned (.tuple #[.agg #[.int .u32 0,.bool false,.slice none 0 0],.bool false])) w4):=Lib.hid (fun e w4 hb=>by
   have:=HZ.out w4 (by rw [e]) hb
   rw [e] at this ⊢
   exact this)
 by_cases h6:b.length<6
 · have d1:decide ((b.length:Int)<6)=true:=decide_eq_true (by omega)
   have HR:Hid (X=(⟨0,false,[]⟩,false)):=Lib.hid (by rw [HRC.out];exact recC_none HQ.out (decR_short h6))
   clear h6
   go_wp2_with (first
     | (refine wpList_store_whole rfl 60 (.tmp 4) (.tmp 39) rfl w.heap.size [.int .u32 0,.bool false,.slice none 0 0] _ _ HV1.out rfl rfl rfl info_rec (rec_one _ _ _ _ _) ?_;intro w4 ht4 hg4)
     | fail)
   refine bodyPost_ret (results_cell_tmp rfl _ _ w.heap.size 0 rfl [.int .u32 0,.bool false,.slice none 0 0] _ (rangeAt_row hg4) Tryz.underlying60 rfl info_rec) rfl ?_
   exact HBAD.out HR.out w4 (HB1.out.trans (ht4.below HB1.out.size (fun k hk e=>by omega)))
 have d1:decide ((b.length:Int)<6)=false:=decide_eq_false (by omega)
 obtain ⟨ab,ao,rfl⟩:=HI1.out.nonnil (by omega)
 have h4l:4<b.length:=by omega
 have c4:w1.cell? ⟨ab,ao+4,none⟩=some (.int .u8 (b[4]'h4l).toNat):=by
   rcases HI1.out.2.2.2 with ⟨h0,_⟩ | ⟨b',off',h0,_,hc⟩
   · rw [h0] at h4l;simp at h4l
   · cases h0
     exact hc 4 h4l
 obtain ⟨p,HP1,HP2⟩:=slice_from HI1.out 5 5 rfl (by omega)
 have HIP:=Lib.hid (HP2 w1 (fun _=>True) ⟨HI1.out,fun _ _ _ _=>trivial⟩).1
 have HD:=Lib.hid (decR_mid (show 6≤b.length by omega))
 have hyl:=(b[4]'h4l).toNat_lt
 have hs32:numOf (b.take 4)<4294967296:=by
   have:=numOf_lt (b.take 4)
   have h4:(b.take 4).length=4:=by rw [List.length_take];omega
   rw [h4] at this
   exact this
 have HGT:=Lib.hid (rget_any (some ⟨ab,ao,none⟩) b.length bc 4 4 b w1 rfl HI1.out (by decide) (by decide) (by omega))
 generalize (b[4]'h4l).toNat=yn at HD c4 hyl
 generalize numOf (b.take 4)=sq at HD hs32 HGT
 have hdl:(b.drop 5).length=b.length - 5:=by rw [List.length_drop]
 have HDL:=Lib.hid hdl
 generalize b.drop 5=t at HIP HD HDL
 clear HP2 HI1 hdl
 by_cases h3:1<yn
 · have d2:decide (1<yn)=true:=decide_eq_true h3
   have d2':decide ((1:Int)<(yn:Int))=true:=decide_eq_true (by omega)
   have HR:Hid (X=(⟨0,false,[]⟩,false)):=Lib.hid (by
     rw [HRC.out]
     cases hd:decR b with
     | none=>exact recC_none HQ.out hd
     | some z =>
       obtain ⟨s',h',l'⟩:=z
       refine recC_bad HQ.out hd (fun hh => ?_)
       have hd2:=HD.out
       rw [hd] at hd2
       cases hl:decL t with
       | none=>rw [hl] at hd2;cases hd2
       | some v =>
         obtain ⟨l2,r2⟩:=v
         rw [hl] at hd2
         dsimp only at hd2
         split at hd2
         · have:=Option.some.inj hd2
           have:=(Prod.mk.inj (Prod.mk.inj this).2).1
           omega
         · cases hd2)
   clear h3 h6
   go_wp2_with (first
     | (refine wpList_store_whole rfl 60 (.tmp 4) (.tmp 39) rfl w.heap.size [.int .u32 0,.bool false,.slice none 0 0] _ _ HV1.out rfl rfl rfl info_rec (rec_one _ _ _ _ _) ?_;intro w4 ht4 hg4)
     | fail)
   refine bodyPost_ret (results_cell_tmp rfl _ _ w.heap.size 0 rfl [.int .u32 0,.bool false,.slice none 0 0] _ (rangeAt_row hg4) Tryz.underlying60 rfl info_rec) rfl ?_
   exact HBAD.out HR.out w4 (HB1.out.trans (ht4.below HB1.out.size (fun k hk e=>by omega)))
 have d2:decide (1<yn)=false:=decide_eq_false h3
 have d2':decide ((1:Int)<(yn:Int))=false:=decide_eq_false (by omega)
 have hy01:∃ st:Bool,yn=(if st then 1 else 0):=by
   by_cases h:yn=1
   · exact ⟨true,h⟩
   · exact ⟨false,by show yn=0;omega⟩
 obtain ⟨st,hst⟩:=hy01
 have e1:((yn:Int) == 1)=st:=by rw [hst];cases st <;> rfl
 have e2:(yn == 1)=st:=by rw [hst];cases st <;> rfl
 have HST:=Lib.hid e2
 have hy1:yn≤1:=by omega
 have HY1:=Lib.hid hy1
 clear hst h6 h3 hyl
 have hn1:w.heap.size<w1.heap.size:=hn0
 cases hdc:decL t with
 | none =>
   have HR:Hid (X=(⟨0,false,[]⟩,false)):=Lib.hid (by rw [HRC.out];exact recC_none HQ.out (by rw [HD.out,hdc]))
   go_wp2_with fail
   refine HGT.out.mono ?_;rintro e w2 ⟨rfl,rfl⟩
   go_wp2_with fail
   refine (rgetlist_bad (some p) (b.length - 5) (bc - 5) t w1 HIP.out hdc).mono ?_;rintro e w2 ⟨rfl,rfl⟩
   clear hdc
   have hbx:Below w1.heap.size w1 (w1.alloc (.cells #[.int .u32 sq,.bool st,.slice none 0 0] 60)):=(Below.refl _ _).alloc (Nat.le_refl _) _
   have HVX:=Lib.hid (below_heap hbx HV1.out (lt_of_heap HV1.out))
   have HBX:=Lib.hid hbx
   clear hbx
   go_wp2_with (first
     | (refine wpList_store_whole rfl 60 (.tmp 4) (.tmp 75) rfl w.heap.size [.int .u32 0,.bool false,.slice none 0 0] _ _ HVX.out rfl rfl rfl info_rec (rec_one _ _ _ _ _) ?_;intro w4 ht4 hg4)
     | fail)
   refine bodyPost_ret (results_cell_tmp rfl _ _ w.heap.size 0 rfl [.int .u32 0,.bool false,.slice none 0 0] _ (rangeAt_row hg4) Tryz.underlying60 rfl info_rec) rfl ?_
   have hb3:=HB1.out.trans (HBX.out.mono HB1.out.size)
   exact HBAD.out HR.out w4 (hb3.trans (ht4.below hb3.size (fun k hk e=>by omega)))
 | some v =>
   obtain ⟨l,r⟩:=v
   obtain ⟨hl255,hlt⟩:=decL_len hdc
   go_wp2_with fail
   refine HGT.out.mono ?_;rintro e w2 ⟨rfl,rfl⟩
   go_wp2_with fail
   refine (rgetlist_ok (some p) (b.length - 5) (bc - 5) t l r w1 HIP.out hdc).mono ?_;rintro e w2 ⟨la,lc,rfl,hb2,ho2,-,hrr⟩
   have HDC:=Lib.hid hdc
   have HIL:=Lib.hid (isI_of_owns ho2.2 ho2.1)
   have HOL:=Lib.hid (ho2.low HB1.out.size)
   have H2:=Lib.hid (H1.out.below hb2)
   have HB2:=Lib.hid (HB1.out.trans (hb2.mono HB1.out.size))
   have HV2:=Lib.hid (below_heap hb2 HV1.out (lt_of_heap HV1.out))
   have c42:w2.cell? ⟨ab,ao+4,none⟩=some (.int .u8 yn):=cell_later hb2 c4
   have hn2:w.heap.size<w2.heap.size:=Nat.lt_of_lt_of_le hn1 hb2.size
   obtain ⟨K,hK⟩:∃ K,K=1+4*l.length:=⟨_,rfl⟩
   rw [← hK] at hrr hlt ⊢
   have hKm:K≤1021:=by omega
   have hbx:Below w2.heap.size w2 (w2.alloc (.cells #[.int .u32 sq,.bool st,.slice la l.length lc] 60)):=(Below.refl _ _).alloc (Nat.le_refl _) _
   have HNX:=Lib.hid (heap_new w2 (.cells #[.int .u32 sq,.bool st,.slice la l.length lc] 60 (0,0)))
   have HVX:=Lib.hid (below_heap hbx HV2.out (lt_of_heap HV2.out))
   have HBX:=Lib.hid (HB2.out.trans (hbx.mono HB2.out.size))
   have HX2:=Lib.hid (H2.out.below hbx)
   have HILX:=Lib.hid (HIL.out.below hbx)
   have HOLX:=Lib.hid (HOL.out.below hbx)
   clear hb2 ho2 hdc c4 HP1 HIP hK hbx HIL H2 HB2 HV2 H1 HV1 HGT
   by_cases hrn:K=t.length
   · have d3:((K:Int)+5 == (b.length:Int))=true:=by rw [beq_iff_eq];have:=HDL.out;omega
     have d3':((K:Int)+5 != (b.length:Int))=false:=by rw [bne,d3];rfl
     have HRN:Hid (r=[]):=Lib.hid (by rw [hrr];exact List.drop_eq_nil_of_le (by omega))
     have HDP:Hid (decR b=some (sq,yn,l)):=Lib.hid (by rw [HD.out,HDC.out];dsimp only;rw [if_pos HRN.out])
     clear hrn hrr
     go_wp2_with fail
     generalize w2.alloc (.cells #[.int .u32 sq,.bool st,.slice la l.length lc] 60)=w3 at HNX HVX HBX HX2 HILX HOLX ⊢
     refine (rfits_any ts B rd rl rc x c R sq st la l.length lc l w3 HX2.out HILX.out hr).mono ?_;rintro e w4 ⟨rfl,hb4⟩
     have HB4:=Lib.hid (HBX.out.trans (hb4.mono HBX.out.size))
     have HN4:=Lib.hid (below_heap hb4 HNX.out (lt_of_heap HNX.out))
     have HV4:=Lib.hid (below_heap hb4 HVX.out (lt_of_heap HVX.out))
     have HOL4:=Lib.hid (HOLX.out.below hb4)
     clear hb4 HNX HVX HBX HX2 HILX
     cases hf:fitsC c.r.length ⟨sq,st,l⟩ with
     | false =>
       have HR:Hid (X=(⟨0,false,[]⟩,false)):=Lib.hid (by rw [HRC.out];exact recC_bad HQ.out HDP.out (fun hh=>by have h2:=hh.2;rw [HST.out,hf] at h2;cases h2))
       clear hf
       go_wp2_with (first
         | (refine wpList_store_whole rfl 60 (.tmp 4) (.tmp 75) rfl w.heap.size [.int .u32 0,.bool false,.slice none 0 0] _ _ HV4.out rfl rfl rfl info_rec (rec_one _ _ _ _ _) ?_;intro w5 ht5 hg5)
         | fail)
       refine bodyPost_ret (results_cell_tmp rfl _ _ w.heap.size 0 rfl [.int .u32 0,.bool false,.slice none 0 0] _ (rangeAt_row hg5) Tryz.underlying60 rfl info_rec) rfl ?_
       exact HBAD.out HR.out w5 (HB4.out.trans (ht5.below HB4.out.size (fun k hk e=>by omega)))
     | true =>
       have HR:Hid (X=(⟨sq,st,l⟩,true)):=Lib.hid (by rw [HRC.out,← HST.out];exact recC_good HQ.out HDP.out HY1.out (by rw [HST.out];exact hf))
       clear hf
       go_wp2_with (first
         | (refine wpList_load_mid rfl 60 (.tmp 14) rfl w2.heap.size 0 rfl [.int .u32 sq,.bool st,.slice la l.length lc] _ (rangeAt_row HN4.out) Tryz.underlying60 rfl info_rec ?_)
         | (refine wpList_store_whole rfl 60 (.tmp 4) (.tmp 76) rfl w.heap.size [.int .u32 sq,.bool st,.slice la l.length lc] _ _ HV4.out rfl rfl rfl info_rec (rec_one _ _ _ _ _) ?_;intro w5 ht5 hg5)
         | fail)
       refine bodyPost_ret (results_cell_tmp rfl _ _ w.heap.size 0 rfl [.int .u32 sq,.bool st,.slice la l.length lc] _ (rangeAt_row hg5) Tryz.underlying60 rfl info_rec) rfl ?_
       rw [HR.out]
       exact ⟨la,l.length,lc,rfl,HB4.out.trans (ht5.below HB4.out.size (fun k hk e=>by omega)),HOL4.out.1,owns_touch HOL4.out.2 ht5 (fun k hk e=>by
         obtain ⟨cur,hcur⟩:=owns_block HOL4.out.2 hk
         rw [e,HV4.out] at hcur
         exact absurd (Obj.cells.inj (Option.some.inj hcur)).2.1 (by decide))⟩
   · have d3:((K:Int)+5 == (b.length:Int))=false:=by rw [beq_eq_false_iff_ne];have:=HDL.out;omega
     have d3':((K:Int)+5 != (b.length:Int))=true:=by rw [bne,d3];rfl
     have HR:Hid (X=(⟨0,false,[]⟩,false)):=Lib.hid (by
       rw [HRC.out]
       refine recC_none HQ.out ?_
       rw [HD.out,HDC.out]
       dsimp only
       rw [if_neg]
       rw [hrr]
       intro e
       have:=congrArg List.length e
       rw [List.length_drop] at this
       simp at this
       omega)
     clear hrn hrr
     go_wp2_with (first
       | (refine wpList_store_whole rfl 60 (.tmp 4) (.tmp 75) rfl w.heap.size [.int .u32 0,.bool false,.slice none 0 0] _ _ HVX.out rfl rfl rfl info_rec (rec_one _ _ _ _ _) ?_;intro w5 ht5 hg5)
       | fail)
     refine bodyPost_ret (results_cell_tmp rfl _ _ w.heap.size 0 rfl [.int .u32 0,.bool false,.slice none 0 0] _ (rangeAt_row hg5) Tryz.underlying60 rfl info_rec) rfl ?_
     exact HBAD.out HR.out w5 (HBX.out.trans (ht5.below HBX.out.size (fun k hk e=>by omega)))
theorem decBs_snoc {j:Nat} {b r r2 x:List UInt8} {ss:List (List UInt8)} (h:decBs j b=some (ss,r)) (hd:decB r=some (x,r2)):decBs (j+1) b=some (ss ++ [x],r2):=by
 rw [decBs_succ,h]
 dsimp only
 rw [hd]
theorem gc_base {B n5 i:Nat} {v0 v1 v2 v3 v4 v:Value} {wr w1:World} (hn5:n5<B) (hb1:Below wr.heap.size wr w1) (hblk:wr.heap[n5]?=some (.cells #[v0,v1,v2,v3,v4] 27 (0,0))) :
   Touch (fun k=>k=n5) wr (w1.setCell ⟨n5,i,none⟩ v)∧(w1.setCell ⟨n5,i,none⟩ v).heap[n5]?=some (.cells (#[v0,v1,v2,v3,v4].setIfInBounds i v) 27 (0,0)) :=
 ⟨(Touch.of_below (S:=fun k=>k=n5) hb1).trans (touch_set w1 n5 i v),heap_setCell_same _ n5 i _ _ _ (below_heap hb1 hblk (lt_of_heap hblk))⟩
theorem GcJ.step_adm {B n5 N:Nat} {b2 rest x r2:List UInt8} {v0 v1 v2 v3:Value} {w0 wr w1:World} {ss:List (List UInt8)} {a':Option Addr} {c':Nat} (hn5:n5<B) (h:GcJ B n5 N b2 v0 w0 N v1 v2 v3 ss rest wr) (hb1:Below wr.heap.size wr w1) (hB:B≤wr.heap.size)
   (hx:w1.ownsRow wr.heap.size 5 1 (.slice a' x.length c') x.length (bcells x)) (hd:decB rest=some (x,r2)):GcJ B n5 N b2 v0 w0 (N+1) v1 (.slice a' x.length c') v3 (ss ++ [x]) r2 (w1.setCell ⟨n5,2,none⟩ (.slice a' x.length c')):=by
 obtain ⟨ht,hk⟩:=gc_base (i:=2) (v:=.slice a' x.length c') hn5 hb1 h.blk
 have hl:=decBs_length h.dec
 obtain ⟨sa,sc,vs,e1,o1,k1⟩:=h.sec
 obtain ⟨ua,un,uc,e3,_⟩:=h.aud
 rw [List.take_of_length_le (by omega)] at k1
 refine ⟨h.bel.trans ht,hk,decBs_snoc h.dec hd,⟨sa,sc,vs,?_,?_,?_⟩,⟨a',x.length,c',rfl,fun _=>⟨?_,?_⟩⟩,⟨ua,un,uc,e3,fun hh=>absurd hh (by omega)⟩⟩
 · rw [e1];congr 1;omega
 · rw [show min (N+1) N=min N N by omega]
   exact owns_touch o1 ht (fun k hk e=>by have:=owns_base o1 k hk;omega)
 · rw [List.take_append_of_le_length (by omega),List.take_of_length_le (by omega)]
   exact k1.touch ht (fun k hk _ e=>by omega)
 · simp [List.getD,← hl]
 · have e:(ss ++ [x]).getD N []=x:=by simp [List.getD,← hl]
   rw [e]
   exact owns_low (owns_touch hx (touch_set w1 n5 2 _) (fun k hk e=>by have:=owns_base hx k hk;omega)) hB
theorem GcJ.step_aud {B n5 N:Nat} {b2 rest x r2:List UInt8} {v0 v1 v2 v3:Value} {w0 wr w1:World} {ss:List (List UInt8)} {a':Option Addr} {c':Nat} (hn5:n5<B) (h:GcJ B n5 N b2 v0 w0 (N+1) v1 v2 v3 ss rest wr) (hb1:Below wr.heap.size wr w1) (hB:B≤wr.heap.size)
   (hx:w1.ownsRow wr.heap.size 5 1 (.slice a' x.length c') x.length (bcells x)) (hd:decB rest=some (x,r2)):GcJ B n5 N b2 v0 w0 (N+2) v1 v2 (.slice a' x.length c') (ss ++ [x]) r2 (w1.setCell ⟨n5,3,none⟩ (.slice a' x.length c')):=by
 obtain ⟨ht,hk⟩:=gc_base (i:=3) (v:=.slice a' x.length c') hn5 hb1 h.blk
 have hl:=decBs_length h.dec
 obtain ⟨sa,sc,vs,e1,o1,k1⟩:=h.sec
 obtain ⟨aa,an,ac,e2,o2⟩:=h.adm
 obtain ⟨h2a,h2b⟩:=o2 (by omega)
 refine ⟨h.bel.trans ht,hk,decBs_snoc h.dec hd,⟨sa,sc,vs,?_,?_,?_⟩,⟨aa,an,ac,e2,fun _=>⟨?_,?_⟩⟩,⟨a',x.length,c',rfl,fun _=>⟨?_,?_⟩⟩⟩
 · rw [e1];congr 1;omega
 · rw [show min (N+2) N=min (N+1) N by omega]
   exact owns_touch o1 ht (fun k hk e=>by have:=owns_base o1 k hk;omega)
 · rw [List.take_append_of_le_length (by omega)]
   exact k1.touch ht (fun k hk _ e=>by omega)
 · rw [h2a];simp [List.getD,List.getElem?_append_left (show N<ss.length by omega)]
 · have e:(ss ++ [x]).getD N []=ss.getD N []:=by simp [List.getD,List.getElem?_append_left (show N<ss.length by omega)]
   rw [e]
   exact owns_touch h2b ht (fun k hk e=>by have:=owns_base h2b k hk;omega)
 · simp [List.getD,← hl]
 · have e:(ss ++ [x]).getD (N+1) []=x:=by simp [List.getD,← hl]
   rw [e]
   exact owns_low (owns_touch hx (touch_set w1 n5 3 _) (fun k hk e=>by have:=owns_base hx k hk;omega)) hB
theorem GcJ.step_sec {B n5 N j:Nat} {b2 rest x r2:List UInt8} {v0 v2 v3:Value} {w0 wr w1 w8:World} {ss:List (List UInt8)} {a' va b8:Option Addr} {c' vc c8:Nat} {vs:List Value} {o1:Obj} (hn5:n5<B) (hB0:w0.heap.size≤B) (hj:j<N) (h:GcJ B n5 N b2 v0 w0 j (.slice va j vc) v2 v3 ss rest wr) (ho:wr.ownsRow B 24 1 (.slice va j vc) j vs) (hv:BBo B wr vs (ss.take N)) (hb1:Below wr.heap.size wr w1) (hB:B≤wr.heap.size)
   (hx:w1.ownsRow wr.heap.size 5 1 (.slice a' x.length c') x.length (bcells x)) (hd:decB rest=some (x,r2)) (hg8:(w1.alloc o1).grownBy w8 (Value.slice va j vc).ownBlock) (ho8:w8.ownsRow B 24 1 (.slice b8 (j+1) c8) (j+1) (vs ++ [.slice a' x.length c'])) :
   GcJ B n5 N b2 v0 w0 (j+1) (.slice b8 (j+1) c8) v2 v3 (ss ++ [x]) r2 (w8.setCell ⟨n5,1,none⟩ (.slice b8 (j+1) c8)):=by
 have hl:=decBs_length h.dec
 have ho1:=owns_below ho hb1
 have h18:Touch (fun k=>(Value.slice va j vc).ownBlock=some k) w1 w8:=((Touch.refl (fun k=>(Value.slice va j vc).ownBlock=some k) w1).alloc _).grown hg8 (fun k hk=>.inl hk)
 have hb8:Below wr.heap.size wr w1:=hb1
 have h08:Touch (fun k=>(Value.slice va j vc).ownBlock=some k) wr w8:=(Touch.of_below (S:=fun k=>(Value.slice va j vc).ownBlock=some k) hb1).trans h18
 have hblk8:w8.heap[n5]?=some (.cells #[v0,.slice va j vc,v2,v3,.int .u64 0] 27 (0,0)):=h08.heap h.blk (fun e=>by have:=owns_base ho n5 e;omega)
 have h8X:=touch_set w8 n5 1 (.slice b8 (j+1) c8)
 rw [List.take_of_length_le (by omega)] at hv
 have hx':=owns_low hx hB
 have hv8:BBo B w8 (vs ++ [.slice a' x.length c']) (ss ++ [x]):=((hv.touch (Touch.of_below (S:=fun _=>False) hb1) (fun _ _ _ h=>h)).snoc hx').touch h18 (fun k hk ⟨cur,hc⟩ e=>by
   obtain ⟨c2,h2⟩:=owns_block ho1 e
   rw [hc] at h2
   exact absurd (Obj.cells.inj (Option.some.inj h2)).2.1 (by decide))
 obtain ⟨aa,an,ac,e2,_⟩:=h.adm
 obtain ⟨ua,un,uc,e3,_⟩:=h.aud
 refine ⟨?_,?_,decBs_snoc h.dec hd,⟨b8,c8,vs ++ [.slice a' x.length c'],?_,?_,?_⟩,⟨aa,an,ac,e2,fun hh=>absurd hh (by omega)⟩,⟨ua,un,uc,e3,fun hh=>absurd hh (by omega)⟩⟩
 · refine Touch.setCell ?_ _ _ (.inl rfl)
   exact ((h.bel.trans (Touch.of_below (S:=fun k=>k=n5) hb1)).alloc _).grown hg8 (fun k hk=>.inr (Nat.le_trans hB0 (owns_base ho k hk)))
 · rw [heap_setCell_same _ n5 1 _ _ _ hblk8];rfl
 · congr 1;omega
 · rw [show min (j+1) N=j+1 by omega]
   exact owns_touch ho8 h8X (fun k hk e=>by have:=owns_base ho8 k hk;omega)
 · rw [List.take_of_length_le (by simp;omega)]
   exact hv8.touch h8X (fun k hk _ e=>by omega)
theorem owns_base2 {w:World} {B e sz n m c b off:Nat} {xs:List Value} (h:w.ownsRow B e sz (.slice (some ⟨b,off,none⟩) m c) n xs):B≤b:=by
 rcases h.2 with ⟨h,_⟩ | ⟨g,cap,cur,h,hb,_⟩
 · cases h
 · cases h;exact hb
theorem bb_of_owns {B:Nat} {w:World} {a:Option Addr} {n c:Nat} {vs:List Value} {s:List (List UInt8)} (ho:w.ownsRow B 24 1 (.slice a n c) n vs) (hn:n=s.length) (hv:BBo B w vs s):IsBBp w (fun k=>B≤k∧TyC w k) a n c vs s:=by
 subst hn
 refine ⟨rfl,?_,?_,⟨hv.1,fun i hi=>by
   obtain ⟨a,c,h1,h2⟩:=hv.2 i hi
   exact ⟨a,_,c,h1,isB_of_owns h2 rfl,fun b off e _=>TyC.own h2 (by rw [e];rfl) (.inl rfl)⟩⟩,?_⟩
 · rcases ho.2 with ⟨h,h0⟩ | ⟨g,cap,cur,h,_,_,hnc,hcm,_⟩
   · obtain ⟨_,h1,h2⟩:=Value.slice.inj h;omega
   · cases h;exact hnc
 · rcases ho.2 with ⟨h,h0⟩ | ⟨g,cap,cur,h,_,_,hnc,hcm,_⟩
   · obtain ⟨_,h1,h2⟩:=Value.slice.inj h;rw [h2];decide
   · cases h;exact hcm
 · rcases ho.2 with ⟨h,h0⟩ | ⟨g,cap,cur,h,hb,hg,_⟩
   · exact .inl (List.eq_nil_of_length_eq_zero h0)
   · cases h
     refine .inr ⟨g,0,rfl,TyC.own ho rfl (.inr (.inl rfl)),lt_of_heap hg,fun i hi => ?_⟩
     rw [Nat.zero_add]
     exact cells_of_owns ho i _ (List.getElem?_eq_getElem hi)
theorem bp_of_owns {B:Nat} {w:World} {a:Option Addr} {n c:Nat} {l:List UInt8} (ho:w.ownsRow B 5 1 (.slice a n c) n (bcells l)) (hn:n=l.length):IsBp w (fun k=>B≤k∧TyC w k) a n c l :=
 ⟨isB_of_owns ho hn,fun b off e _=>TyC.own ho (by rw [e];rfl) (.inl rfl)⟩
theorem ip_of_owns {B:Nat} {w:World} {a:Option Addr} {n c:Nat} {l:List Int} (ho:w.ownsRow B 3 1 (.slice a n c) n (icells l)) (hn:n=l.length):IsIp w (fun k=>B≤k∧TyC w k) a n c l :=
 ⟨isI_of_owns ho hn,fun b off e _=>TyC.own ho (by rw [e];rfl) (.inr (.inr rfl))⟩
theorem GcJ.cf {B n5 N t rc:Nat} {b2 rest:List UInt8} {w0 wr:World} {ss:List (List UInt8)} {r:List Int} {ra sa aa ua:Option Addr} {sc an ac un uc:Nat} {vs:List Value} {B0:Nat} (hB:B0≤B) (hn5:n5<B0) (h:GcJ B n5 N b2 (.slice ra r.length rc) w0 (N+2) (.slice sa N sc) (.slice aa an ac) (.slice ua un uc) ss rest wr)
   (hr:w0.ownsRow B0 3 1 (.slice ra r.length rc) r.length (icells r)) (hs:wr.ownsRow B 24 1 (.slice sa N sc) N vs) (hv:BBo B wr vs (ss.take N)) (ht:t<18446744073709551616) :
   CfT B0 wr ⟨ra,r.length,rc,sa,N,sc,vs,aa,an,ac,ua,un,uc⟩ (ofRows r N ss t):=by
 have hl:=decBs_length h.dec
 obtain ⟨_,_,_,e2,o2⟩:=h.adm
 obtain ⟨_,_,_,e3,o3⟩:=h.aud
 cases e2
 cases e3
 obtain ⟨a1,a2⟩:=o2 (by omega)
 obtain ⟨u1,u2⟩:=o3 (by omega)
 exact ⟨ip_of_owns (owns_touch hr h.bel (fun k hk e=>by have:=owns_base hr k hk;omega)) rfl,(bb_of_owns hs (by rw [List.length_take];omega) hv).imp (fun k hk=>⟨Nat.le_trans hB hk.1,hk.2⟩),(bp_of_owns a2 a1).imp (fun k hk=>⟨Nat.le_trans hB hk.1,hk.2⟩),(bp_of_owns u2 u1).imp (fun k hk=>⟨Nat.le_trans hB hk.1,hk.2⟩),ht⟩
end Go.Proofs.YtgbikngicidbkaaGreatDoor
