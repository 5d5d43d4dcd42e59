/- What the prices' steps mean: plain. -/
import Derived.Test.YtmmmjohoihpbeaaGreatQOJwZJwZfJwZs
import Derived.Test.YtmmmjohoihpbeaaGreatQOJmcJmdJmeJmf
import Derived.Test.YtmmmjohoihpbeaaGreatQOJwXJwK
namespace Go.Proofs.YtmmmjohoihpbeaaGreat
section
open Go.RowKit
set_option linter.unusedVariables false
namespace JM
theorem cnt_true (n:Nat):cnt n (fun _=>True)=n:=by
 induction n with
 | zero=>rfl
 | succ n ih=>rw [cnt_succ,ih,if_pos trivial]
theorem cnt_ris {l:List Int} {K:Nat} (h:RisL l K):cnt K (fun k=>(k:Int) ∈ l)=l.length:=by
 have h1:cnt K (fun k=>(k:Int) ∈ l)≤cnt l.length (fun _=>True):=cnt_inj (fun k i=>l[i]?=some (k:Int)) (fun k hk hm=>by
   obtain ⟨i,hi,e⟩:=List.getElem_of_mem hm
   exact ⟨i,hi,trivial,by rw [List.getElem?_eq_getElem hi,e]⟩) (fun k k' i _ _ _ _ a b=>by rw [a] at b;have:=Option.some.inj b;omega)
 have h2:cnt l.length (fun _=>True)≤cnt K (fun k=>(k:Int) ∈ l):=cnt_inj (fun i k=>l[i]?=some (k:Int)) (fun i hi _=>by
   obtain ⟨a,b⟩:=h.at i hi
   obtain ⟨k,e⟩:=Int.eq_ofNat_of_zero_le a
   exact ⟨k,by omega,by rw [← e];exact List.getElem_mem hi,by rw [List.getElem?_eq_getElem hi,e]⟩) (fun i j k hi hj _ _ a b=>by
   rw [List.getElem?_eq_getElem hi] at a
   rw [List.getElem?_eq_getElem hj] at b
   exact (List.getElem_inj h.nodup).1 ((Option.some.inj a).trans (Option.some.inj b).symm))
 rw [cnt_true] at h1 h2
 omega
theorem RisL.filter {l:List Int} {n:Int} (h:RisL l n) (f:Int→Bool):RisL (l.filter f) n:=⟨List.Pairwise.filter _ h.1,fun z hz=>h.2 z (List.mem_filter.1 hz).1⟩
theorem wthL_cnt {L:List (List Int)} {mu l:List Int} {n:Nat} (h:RisL mu n):wthL L mu l=cnt n (fun i=>(i:Int) ∈ mu∧wthB L l i=true):=by
 unfold wthL
 rw [← cnt_ris (RisL.filter h (wthB L l))]
 exact cnt_congr fun i _=>List.mem_filter
theorem ris_of (f:Nat→Bool) (K:Nat):RisL (((List.range K).filter f).map Int.ofNat) K:=by
 refine ⟨List.Pairwise.map _ (fun a b (hab:a<b)=>by show (a:Int)<b;omega) (List.Pairwise.filter _ List.pairwise_lt_range),fun z hz => ?_⟩
 obtain ⟨k,hk,rfl⟩:=List.mem_map.1 hz
 have:=List.mem_range.1 (List.mem_filter.1 hk).1
 show (0:Int)≤(k:Int)∧(k:Int)<K
 omega
theorem mem_of {f:Nat→Bool} {K k:Nat}:(k:Int) ∈ ((List.range K).filter f).map Int.ofNat↔k<K∧f k=true:=by
 rw [List.mem_map]
 constructor
 · rintro ⟨j,hj,e⟩
   have:j=k:=by have h:(j:Int)=k:=e;omega
   subst this
   exact ⟨List.mem_range.1 (List.mem_filter.1 hj).1,(List.mem_filter.1 hj).2⟩
 · rintro ⟨h1,h2⟩
   exact ⟨k,List.mem_filter.2 ⟨List.mem_range.2 h1,h2⟩,rfl⟩
theorem dmF_eq (bid p:List Int) (K:Nat):dmF (gnK bid p K)=(((List.range K).filter fun k=>gainI bid p k == mx K (gainI bid p)).map Int.ofNat,mx K (gainI bid p)):=by
 induction K with
 | zero=>rfl
 | succ K ih =>
   rw [gnK_succ,dmF_snoc,ih]
   unfold dmS
   have hge:∀ k,k<K→gainI bid p k≤mx K (gainI bid p):=fun k hk=>mx_ge (f:=gainI bid p) k hk
   show (if mx K (gainI bid p)<gainI bid p K then _ else _)=_
   simp only [mx]
   rw [List.range_succ,List.filter_append,List.map_append]
   by_cases h1:mx K (gainI bid p)<gainI bid p K
   · rw [if_pos h1]
     have e:max (mx K (gainI bid p)) (gainI bid p K)=gainI bid p K:=by omega
     rw [e]
     have e2:(List.range K).filter (fun k=>gainI bid p k == gainI bid p K)=[]:=by
       rw [List.filter_eq_nil_iff]
       intro k hk
       have:=hge k (List.mem_range.1 hk)
       simp only [beq_iff_eq];omega
     rw [e2]
     simp [gainI]
   · rw [if_neg h1]
     have e:max (mx K (gainI bid p)) (gainI bid p K)=mx K (gainI bid p):=by omega
     rw [e]
     by_cases h2:gainI bid p K=mx K (gainI bid p)
     · have h2':bid.getD K 0 - p.getD K 0=mx K (gainI bid p):=h2
       rw [if_pos h2']
       simp [h2]
     · have h2':¬ bid.getD K 0 - p.getD K 0=mx K (gainI bid p):=h2
       rw [if_neg h2']
       simp [h2]
section
variable {r:List Int} {b:List (List Int)} {p:List Int}
structure PrM (r:List Int) (b:List (List Int)) (p:List Int):Prop where
 mkt:MkOk r b
 pl:p.length=r.length
 pos:∀ k,k<r.length→0≤ov r p k
theorem PrM.ut (h:PrM r b p) (i:Nat) (hb:b.getD i []≠[]):mx r.length (gainI (b.getD i []) p)=ut r.length (gn r b) (ov r p) i:=by
 unfold JM.ut
 congr 1
 funext k
 rw [gn_ov hb];rfl
theorem PrM.ut0 (h:PrM r b p) (i:Nat) (hb:b.getD i []=[]):JM.ut r.length (gn r b) (ov r p) i=0 :=
 mx_eq (Int.le_refl _) (fun k hk=>by have:=h.pos k hk;rw [gn_emp hb];omega) (.inl rfl)
abbrev wantL (b:List (List Int)) (p:List Int):List (List Int):=mixU (wantsD b p) (noneD b p) b.length
abbrev mustL (b:List (List Int)) (p:List Int):List Int:=mustU (noneD b p) b.length
theorem noneD_get (i:Nat) (hi:i<b.length):(noneD b p).getD i false=((dmF (gnK b[i] p b[i].length)).2 == 0):=by
 rw [getD_get (by simpa [noneD] using hi)];simp [noneD]
theorem wantsD_get (i:Nat) (hi:i<b.length):(wantsD b p).getD i []=(dmF (gnK b[i] p b[i].length)).1:=by
 rw [getD_get (by simpa [wantsD] using hi)];simp [wantsD]
theorem PrM.none (h:PrM r b p) (i:Nat) (hi:i<b.length):(noneD b p).getD i false=true↔¬ mst r.length (gn r b) (ov r p) i:=by
 rw [noneD_get i hi,dmF_eq,beq_iff_eq]
 show mx b[i].length (gainI b[i] p)=0↔_
 unfold mst
 by_cases hb:b.getD i []=[]
 · have e:b[i]=[]:=by rw [← getD_get (d:=[]) hi];exact hb
   rw [h.ut0 i hb,e]
   show (0:Int)=0↔_
   omega
 · have e:b[i]=b.getD i []:=by rw [getD_get hi]
   rw [e,(h.mkt.hb i hi hb).1,h.ut i hb]
   have:=mx_nonneg r.length (fun k=>gn r b i k - ov r p k)
   have:0≤JM.ut r.length (gn r b) (ov r p) i:=this
   omega
theorem mixU_getD (L:List (List Int)) (bs:List Bool) (j i:Nat):(mixU L bs j).getD i []=if i<L.length then (if i<j∧bs.getD i false=true then [] else L.getD i []) else []:=by
 by_cases hi:i<L.length
 · rw [getD_get (by rw [mixU_length];exact hi),if_pos hi]
   simp only [mixU,List.getElem_map,List.getElem_range]
 · rw [if_neg hi,List.getD_eq_getElem?_getD,List.getElem?_eq_none (by rw [mixU_length];omega)];rfl
theorem PrM.want (h:PrM r b p) (i:Nat) (hi:i<b.length) (k:Nat):(k:Int) ∈ (wantL b p).getD i []↔mst r.length (gn r b) (ov r p) i∧dm r.length (gn r b) (ov r p) i k:=by
 have hn:=h.none i hi
 rw [mixU_getD,if_pos (by simpa [wantsD] using hi)]
 by_cases hm:mst r.length (gn r b) (ov r p) i
 · rw [if_neg (fun e=>hn.1 e.2 hm),wantsD_get i hi,dmF_eq]
   show (k:Int) ∈ ((List.range b[i].length).filter fun k=>gainI b[i] p k == mx b[i].length (gainI b[i] p)).map Int.ofNat↔_
   have hb:b.getD i []≠[]:=fun e=>by
     have:=h.ut0 i e
     unfold mst at hm;omega
   have e:b[i]=b.getD i []:=by rw [getD_get hi]
   rw [mem_of,e,(h.mkt.hb i hi hb).1,h.ut i hb,beq_iff_eq]
   unfold dm
   rw [gn_ov hb]
   exact ⟨fun e=>⟨hm,e⟩,fun e=>e.2⟩
 · rw [if_pos ⟨hi,hn.2 hm⟩]
   exact ⟨(fun e=>by cases e),fun e=>absurd e.1 hm⟩
theorem PrM.must (h:PrM r b p) (i:Nat):(i:Int) ∈ mustL b p↔i<b.length∧mst r.length (gn r b) (ov r p) i:=by
 show (i:Int) ∈ ((List.range b.length).filter fun i => !(noneD b p).getD i false).map Int.ofNat↔_
 rw [mem_of]
 constructor
 · rintro ⟨h1,h2⟩
   refine ⟨h1,Classical.byContradiction fun hm => ?_⟩
   rw [(h.none i h1).2 hm] at h2;cases h2
 · rintro ⟨h1,h2⟩
   refine ⟨h1,?_⟩
   cases hq:(noneD b p).getD i false with
   | true=>exact absurd h2 ((h.none i h1).1 hq)
   | false=>rfl
theorem PrM.mustR (h:PrM r b p):RisL (mustL b p) b.length:=ris_of _ _
theorem PrM.wantR (h:PrM r b p) (i:Nat):RisL ((wantL b p).getD i []) r.length:=by
 rw [mixU_getD]
 by_cases hi:i<b.length
 · rw [if_pos (by simpa [wantsD] using hi)]
   by_cases hc:i<b.length∧(noneD b p).getD i false=true
   · rw [if_pos hc];exact RisL.nil _
   · rw [if_neg hc,wantsD_get i hi,dmF_eq]
     show RisL (((List.range b[i].length).filter fun k=>gainI b[i] p k == mx b[i].length (gainI b[i] p)).map Int.ofNat) _
     have e:b[i]=b.getD i []:=by rw [getD_get hi]
     by_cases hb:b.getD i []=[]
     · rw [e,hb];exact RisL.nil _
     · rw [e,(h.mkt.hb i hi hb).1];exact ris_of _ _
 · rw [if_neg (by simpa [wantsD] using hi)];exact RisL.nil _
theorem wantL_length (b:List (List Int)) (p:List Int):(wantL b p).length=b.length:=by rw [mixU_length];simp [wantsD]
theorem PrM.gok (h:PrM r b p):GOk (wantL b p) p.length:=by
 refine ⟨by rw [h.pl];exact h.mkt.hk.2,by rw [wantL_length];exact h.mkt.hn.2,fun l hl => ?_⟩
 obtain ⟨i,hi,rfl⟩:=List.getElem_of_mem hl
 rw [← getD_get (d:=[]) hi,h.pl]
 exact h.wantR i
theorem PrM.farH (h:PrM r b p):FarH b p (wantL b p) (mustL b p):=by
 refine ⟨Nat.le_trans (mustU_len _ _) h.mkt.hn.2,fun j hj => ?_⟩
 obtain ⟨h1,h2⟩:=h.mustR.at j hj
 obtain ⟨i,e⟩:=Int.eq_ofNat_of_zero_le h1
 have hm:=(h.must i).1 (by rw [← e];exact List.getElem_mem hj)
 have hi:=hm.1
 have hb:b.getD i []≠[]:=fun eb=>by
   have:=h.ut0 i eb
   have h9:=hm.2
   unfold mst at h9;omega
 refine ⟨i,e,hi,by rw [wantL_length];exact hi,?_,?_,fun z hz => ?_⟩
 · rw [← getD_get (d:=[]) hi,h.pl];exact (h.mkt.hb i hi hb).1
 · obtain ⟨k,hk⟩:=dm_some hm.2
   have:=(h.want i hi k).2 ⟨hm.2,hk⟩
   rw [getD_get (by rw [wantL_length];exact hi)] at this
   exact List.length_pos_of_mem this
 · have hr:=h.wantR i
   rw [getD_get (by rw [wantL_length];exact hi)] at hr
   obtain ⟨a1,a2⟩:=hr.2 z hz
   obtain ⟨k,rfl⟩:=Int.eq_ofNat_of_zero_le a1
   exact ⟨k,rfl,by rw [h.pl];omega⟩
theorem PrM.wth (h:PrM r b p) (l:List Int):wthL (wantL b p) (mustL b p) l=cnt b.length (wt r.length (gn r b) (ov r p) fun k=>(k:Int) ∈ l):=by
 rw [wthL_cnt h.mustR]
 refine cnt_congr fun i hi => ?_
 rw [h.must i]
 unfold wthB wt
 rw [Int.toNat_natCast,List.all_eq_true]
 constructor
 · rintro ⟨⟨_,hm⟩,h2⟩
   exact ⟨hm,fun k hk hd=>by simpa using h2 _ ((h.want i hi k).2 ⟨hm,hd⟩)⟩
 · rintro ⟨hm,h2⟩
   refine ⟨⟨hi,hm⟩,fun z hz => ?_⟩
   obtain ⟨a1,a2⟩:=(h.wantR i).2 z hz
   obtain ⟨k,rfl⟩:=Int.eq_ofNat_of_zero_le a1
   rw [decide_eq_true_eq]
   exact h2 k (by omega) ((h.want i hi k).1 hz).2
theorem setL_of (K:Nat) (S:Nat→Prop):∃ l:List Int,RisL l K∧∀ k,k<K→((k:Int) ∈ l↔S k):=by
 have:DecidablePred S:=fun k=>Classical.propDecidable _
 exact ⟨((List.range K).filter fun k=>decide (S k)).map Int.ofNat,ris_of _ _,fun k hk=>by rw [mem_of,decide_eq_true_eq];exact ⟨fun e=>e.2,fun e=>⟨hk,e⟩⟩⟩
theorem PrM.few (h:PrM r b p) {l:List Int} (hf:FewP (wantL b p) p.length (mustL b p) l true):Few b.length r.length (gn r b) (ov r p) (fun k=>(k:Int) ∈ l):=by
 obtain ⟨m,h1,h2,h3,h4⟩:=hf
 obtain ⟨hl,hr⟩:=setsL_ris.1 h2
 rw [h.pl] at hr
 have hc:=cnt_ris hr
 rw [h.wth] at h3
 refine ⟨by rw [hc];omega,fun S' hS' => ?_⟩
 obtain ⟨l',hr',hm'⟩:=setL_of r.length S'
 have e:cnt r.length S'=l'.length:=by rw [← cnt_ris hr'];exact cnt_congr fun k hk=>(hm' k hk).symm
 have:=h4 l'.length (by omega) l' (setsL_ris.2 ⟨rfl,by rw [h.pl];exact hr'⟩)
 rw [h.wth] at this
 rw [e]
 refine Nat.le_trans (cnt_mono fun i hi hw=>⟨hw.1,fun k hk hd=>(hm' k hk).2 (hw.2 k hk hd)⟩) this
theorem manyL_cnt (l:List Int):manyL l=cnt l.length (fun i=>l.getD i (-1)≠-1):=by
 have key:∀ n,n≤l.length→((l.take n).filter (· != -1)).length=cnt n (fun i=>l.getD i (-1)≠-1):=by
   intro n
   induction n with
   | zero=>intro _;rfl
   | succ n ih =>
     intro hn
     rw [List.take_succ_eq_append_getElem hn,List.filter_append,List.length_append,ih (by omega),cnt_succ]
     have e:l.getD n (-1)=l[n]:=getD_get hn
     rw [e]
     by_cases h:l[n] = -1
     · rw [if_neg (fun hh=>hh h)];simp [h]
     · rw [if_pos h];simp [h]
 have:=key l.length (Nat.le_refl _)
 rw [List.take_length] at this
 exact this
theorem PrM.noOver (h:PrM r b p) (hf:FewP (wantL b p) p.length (mustL b p) [] false):NoOver b.length r.length (gn r b) (ov r p):=by
 intro S
 obtain ⟨_,hf⟩:=hf
 rcases hf with ⟨has,hm,hc⟩ | hall
 · have hlen:has.length=b.length:=by rw [hm.len,aloneL_length,wantL_length]
   have hal:∀ i,i<b.length→has.getD i (-1)≠-1→(i:Int) ∈ mustL b p∧has.getD i (-1) ∈ (wantL b p).getD i []:=fun i hi hne=>by
     have h1:=(hm.ok i (by rw [aloneL_length,wantL_length];exact hi)).resolve_left hne
     rw [aloneL_getD] at h1
     split at h1
     · rename_i hq;exact ⟨hq.2,h1⟩
     · cases h1
   have hcount:cnt b.length (fun i=>has.getD i (-1)≠-1)=cnt b.length (fun i=>(i:Int) ∈ mustL b p):=by
     rw [cnt_ris h.mustR,← hc,manyL_cnt,hlen]
   have hfull:∀ i,i<b.length→(i:Int) ∈ mustL b p→has.getD i (-1)≠-1:=fun i hi hmu hne=>by
     have e1:=cnt_one (P:=fun i=>(i:Int) ∈ mustL b p) i hi hmu
     have e2:=cnt_mono (n:=b.length) (P:=fun i=>has.getD i (-1)≠-1) (Q:=fun j=>(j:Int) ∈ mustL b p∧j≠i) (fun j hj hn=>⟨(hal j hj hn).1,fun e=>by rw [e] at hn;exact hn hne⟩)
     omega
   have hdm:∀ i k,i<b.length→mo has i=some k→k<r.length∧dm r.length (gn r b) (ov r p) i k:=fun i k hi e=>by
     have e':=mo_some.1 e
     obtain ⟨h1,h2⟩:=hal i hi (by omega)
     rw [e'] at h2
     have h3:=((h.want i hi k).1 h2).2
     exact ⟨h3.1,h3⟩
   have hmt:Mt b.length r.length (mo has):=⟨fun i k hi e=>(hdm i k hi e).1,fun i j k hi hj e1 e2=>by
     have e1':=mo_some.1 e1
     have e2':=mo_some.1 e2
     exact hm.inj i j (by rw [aloneL_length,wantL_length];exact hi) (by rw [aloneL_length,wantL_length];exact hj) (by rw [e1',e2']) (by omega)⟩
   exact hall_back (E:=dm r.length (gn r b) (ov r p)) (T:=mst r.length (gn r b) (ov r p)) hmt (fun i k hi _ e=>(hdm i k hi e).2) (fun i hi ht hn=>by
     have h1:=hfull i hi ((h.must i).2 ⟨hi,ht⟩)
     have h2:=mo_none.1 hn
     have h3:=hal i hi h1
     have:=((h.wantR i).2 _ h3.2).1
     omega) S
 · obtain ⟨l',hr',hm'⟩:=setL_of r.length S
   have e:cnt r.length S=l'.length:=by rw [← cnt_ris hr'];exact cnt_congr fun k hk=>(hm' k hk).symm
   have hle:l'.length≤r.length:=by rw [← e];exact cnt_le _ _
   have:=hall l'.length (by rw [h.pl];exact hle) l' (setsL_ris.2 ⟨rfl,by rw [h.pl];exact hr'⟩)
   rw [h.wth] at this
   rw [e]
   exact Nat.le_trans (cnt_mono fun i hi hw=>⟨hw.1,fun k hk hd=>(hm' k hk).2 (hw.2 k hk hd)⟩) this
theorem PrM.row (h:PrM r b p) {l:List Int} (i:Nat) (hi:i<b.length) (hw:wt r.length (gn r b) (ov r p) (fun k=>(k:Int) ∈ l) i):farRow l (b.getD i []) p ((wantL b p).getD i [])=farG l (b.getD i []) p (JM.ut r.length (gn r b) (ov r p) i) r.length:=by
 have hb:b.getD i []≠[]:=fun eb=>by
   have:=h.ut0 i eb
   have h9:=hw.1
   unfold mst at h9;omega
 unfold farRow
 rw [if_neg,h.pl]
 · congr 1
   have hne:1≤((wantL b p).getD i []).length:=by
     obtain ⟨k,hk⟩:=dm_some hw.1
     exact List.length_pos_of_mem ((h.want i hi k).2 ⟨hw.1,hk⟩)
   have hmem:((wantL b p).getD i []).getD 0 0 ∈ (wantL b p).getD i []:=getD_mem hne
   obtain ⟨a1,a2⟩:=(h.wantR i).2 _ hmem
   obtain ⟨k,ek⟩:=Int.eq_ofNat_of_zero_le a1
   rw [ek] at hmem
   have hd:=((h.want i hi k).1 hmem).2.2
   rw [ek,Int.toNat_natCast,← hd,gn_ov hb];rfl
 · intro e
   obtain ⟨z,hz,hn⟩:=List.any_eq_true.1 e
   obtain ⟨a1,a2⟩:=(h.wantR i).2 z hz
   obtain ⟨k,rfl⟩:=Int.eq_ofNat_of_zero_le a1
   have:=hw.2 k (by omega) ((h.want i hi k).1 hz).2
   simp [this] at hn
theorem PrM.rowNil (h:PrM r b p) {l:List Int} (i:Nat) (hi:i<b.length) (hm:mst r.length (gn r b) (ov r p) i) (hw:¬ wt r.length (gn r b) (ov r p) (fun k=>(k:Int) ∈ l) i):farRow l (b.getD i []) p ((wantL b p).getD i [])=[]:=by
 unfold farRow
 rw [if_pos]
 apply Classical.byContradiction
 intro hn
 refine hw ⟨hm,fun k hk hd=>Classical.byContradiction fun hkl=>hn ?_⟩
 exact List.any_eq_true.2 ⟨(k:Int),(h.want i hi k).2 ⟨hm,hd⟩,by simpa using hkl⟩
theorem mem_farU {set:List Int} {b:List (List Int)} {p:List Int} {L:List (List Int)} {mu:List Int} {z:Int}:z ∈ farU set b p L mu mu.length↔∃ i ∈ mu,z ∈ farRow set (b.getD i.toNat []) p (L.getD i.toNat []):=by
 unfold farU
 rw [List.take_length,List.mem_flatMap]
theorem mem_farG {set bid p:List Int} {g:Int} {K:Nat} {z:Int}:z ∈ farG set bid p g K↔z=g∨∃ k,k<K∧¬ (k:Int) ∈ set∧z=g - gainI bid p k:=by
 unfold farG
 rw [List.mem_cons,List.mem_map]
 constructor
 · rintro (e | ⟨k,hk,rfl⟩)
   · exact .inl e
   · obtain ⟨h1,h2⟩:=List.mem_filter.1 hk
     exact .inr ⟨k,List.mem_range.1 h1,by simpa using h2,rfl⟩
 · rintro (e | ⟨k,h1,h2,rfl⟩)
   · exact .inl e
   · exact .inr ⟨k,List.mem_filter.2 ⟨List.mem_range.2 h1,by simpa using h2⟩,rfl⟩
theorem PrM.far (h:PrM r b p) {l:List Int} {z:Int} (h1:z ∈ farU l b p (wantL b p) (mustL b p) (mustL b p).length) (h2:∀ y ∈ farU l b p (wantL b p) (mustL b p) (mustL b p).length,z≤y):Far b.length r.length (gn r b) (ov r p) (fun k=>(k:Int) ∈ l) z:=by
 have hgain:∀ i k,i<b.length→mst r.length (gn r b) (ov r p) i→gainI (b.getD i []) p k=gn r b i k - ov r p k:=fun i k hi hm=>by
   have hb:b.getD i []≠[]:=fun eb=>by
     have:=h.ut0 i eb
     unfold mst at hm;omega
   rw [gn_ov hb];rfl
 refine ⟨fun i hi hw => ?_,?_⟩
 · have hin:∀ y ∈ farG l (b.getD i []) p (JM.ut r.length (gn r b) (ov r p) i) r.length,z≤y:=fun y hy=>h2 y (mem_farU.2 ⟨(i:Int),(h.must i).2 ⟨hi,hw.1⟩,by rw [Int.toNat_natCast,h.row i hi hw];exact hy⟩)
   refine ⟨hin _ (mem_farG.2 (.inl rfl)),fun k hk hs=>hin _ (mem_farG.2 (.inr ⟨k,hk,hs,by rw [hgain i k hi hw.1]⟩))⟩
 · obtain ⟨iz,him,hz⟩:=mem_farU.1 h1
   obtain ⟨a1,a2⟩:=h.mustR.2 iz him
   obtain ⟨i,rfl⟩:=Int.eq_ofNat_of_zero_le a1
   rw [Int.toNat_natCast] at hz
   obtain ⟨hi,hm⟩:=(h.must i).1 him
   by_cases hw:wt r.length (gn r b) (ov r p) (fun k=>(k:Int) ∈ l) i
   · rw [h.row i hi hw] at hz
     refine ⟨i,hi,hw,?_⟩
     rcases mem_farG.1 hz with e | ⟨k,hk,hs,e⟩
     · exact .inl e
     · exact .inr ⟨k,hk,hs,by rw [e,hgain i k hi hm]⟩
   · rw [h.rowNil i hi hm hw] at hz;cases hz
structure RisP (r:List Int) (b:List (List Int)) (p:List Int):Prop where
 m:PrM r b p
 ri:Rise b.length r.length (gn r b) (ov r p)
 top:∀ k,k<r.length→0≤p.getD k 0∧p.getD k 0≤1000000
theorem RisP.of (hm:MkOk r b) (hl:p.length=r.length) (hr:Rise b.length r.length (gn r b) (ov r p)):RisP r b p:=by
 refine ⟨⟨hm,hl,hr.pos⟩,hr,fun k hk => ?_⟩
 have h1:=hr.pos k hk
 have h2:=hm.hr k hk
 unfold ov at h1
 refine ⟨by omega,?_⟩
 rcases hr.top k hk with e | ⟨i,hi,e⟩
 · unfold ov at e;omega
 · by_cases hb:b.getD i []=[]
   · rw [gn_emp hb] at e;unfold ov at e;omega
   · rw [gn_bid hb] at e
     have:=(hm.hb i hi hb).2 k hk
     unfold ov at e;omega
theorem RisP.start (hm:MkOk r b):RisP r b r:=RisP.of hm rfl (Rise.zero _ _ _ fun k _=>by unfold ov;omega)
theorem RisP.pr (h:RisP r b p):PrOk p:=by
 refine ⟨by rw [h.m.pl];exact h.m.mkt.hk.1,by rw [h.m.pl];exact h.m.mkt.hk.2,fun z hz => ?_⟩
 obtain ⟨k,hk,rfl⟩:=List.getElem_of_mem hz
 have:=h.top k (by rw [← h.m.pl];exact hk)
 rw [getD_get hk] at this
 omega
theorem RisP.step (h:RisP r b p) {out:List Int} (hs:StepP b p (wantL b p) (mustL b p) out true):RisP r b out∧sumN r.length (ov r p)+1≤sumN r.length (ov r out):=by
 obtain ⟨l,z,h1,h2,h3,rfl⟩:=hs
 have hf:=h.m.few h1
 have hb:=h.m.far h2 h3
 have e1:∀ k,k<r.length→(k:Int) ∈ l→ov r (addU p l z l.length) k=ov r p k+z:=fun k hk hm=>by
   unfold ov
   rw [addU_getD _ _ _ _ _ (by rw [h.m.pl];exact hk),List.take_length,if_pos hm];omega
 have e2:∀ k,k<r.length→¬ (k:Int) ∈ l→ov r (addU p l z l.length) k=ov r p k:=fun k hk hm=>by
   unfold ov
   rw [addU_getD _ _ _ _ _ (by rw [h.m.pl];exact hk),List.take_length,if_neg hm];omega
 exact ⟨RisP.of h.m.mkt (by rw [addU_length];exact h.m.pl) (h.ri.step hf hb e1 e2),Rise.more hf hb e1 e2⟩
theorem RisP.done (h:RisP r b p) {out:List Int} (hs:StepP b p (wantL b p) (mustL b p) out false):out=p∧Leastp b.length r.length (gn r b) (ov r p):=by
 obtain ⟨h1,h2⟩:=hs
 exact ⟨h2,h.ri.least (h.m.noOver h1)⟩
theorem RisP.sum (h:RisP r b p):0≤sumN r.length (ov r p)∧sumN r.length (ov r p)≤8000000:=by
 have h1:=sumN_le (n:=r.length) (f:=fun _=>0) (g:=ov r p) (fun k hk=>h.m.pos k hk)
 have h2:=sumN_le (n:=r.length) (f:=ov r p) (g:=fun _=>1000000) (fun k hk=>by
   have:=h.top k hk
   have:=(h.m.mkt.hr k hk).1
   unfold ov;omega)
 have h3:∀ n,sumN n (fun _=>1000000)=(n:Int)*1000000:=fun n=>by
   induction n with
   | zero=>rfl
   | succ n ih=>simp only [sumN,ih];omega
 rw [sumN_zero] at h1
 rw [h3] at h2
 have:=h.m.mkt.hk.2
 exact ⟨h1,by omega⟩
end
end JM
end
open Go.RowKit
set_option linter.unusedVariables false
set_option linter.unusedSimpArgs false
namespace JM
def bitL (K n:Nat):List Int:=((List.range K).filter fun k=>n.testBit k).map Int.ofNat
theorem bitL_yes {K n:Nat} (h:n.testBit K=true):bitL (K+1) n=bitL K n ++ [(K:Int)]:=by
 unfold bitL
 rw [List.range_succ,List.filter_append,List.map_append]
 simp [h]
theorem bitL_no {K n:Nat} (h:n.testBit K=false):bitL (K+1) n=bitL K n:=by
 unfold bitL
 rw [List.range_succ,List.filter_append,List.map_append]
 simp [h]
theorem bitL_ris (K n:Nat):RisL (bitL K n) K:=ris_of _ _
theorem bitL_len (K n:Nat):(bitL K n).length≤K:=(bitL_ris K n).len
theorem bits_of (f:Nat→Bool):∀ K,∃ n,n<2 ^ K∧∀ k,k<K→n.testBit k=f k
 | 0=>⟨0,by decide,fun k h=>by omega⟩
 | K+1=>by
   obtain ⟨n,h1,h2⟩:=bits_of f K
   cases e:f K with
   | false =>
     refine ⟨n,Nat.lt_of_lt_of_le h1 (Nat.pow_le_pow_right (by decide) (by omega)),fun k hk => ?_⟩
     by_cases ek:k=K
     · subst ek;rw [e];exact Nat.testBit_lt_two_pow h1
     · exact h2 k (by omega)
   | true =>
     refine ⟨n ||| 2 ^ K,Nat.or_lt_two_pow (Nat.lt_of_lt_of_le h1 (Nat.pow_le_pow_right (by decide) (by omega))) (Nat.pow_lt_pow_right (by decide) (by omega)),fun k hk => ?_⟩
     rw [Nat.testBit_or,Nat.testBit_two_pow]
     by_cases ek:k=K
     · subst ek;simp [e]
     · have:=h2 k (by omega)
       simp [this,Ne.symm ek]
theorem ris_mem {l:List Int} {K:Nat} (h:RisL l K) {n:Nat} (hn:∀ k,k<K→n.testBit k=decide ((k:Int) ∈ l)) (z:Int):z ∈ bitL K n↔z ∈ l:=by
 constructor
 · intro hz
   obtain ⟨k,hk,rfl⟩:=List.mem_map.1 hz
   obtain ⟨h1,h2⟩:=List.mem_filter.1 hk
   rw [hn k (List.mem_range.1 h1),decide_eq_true_eq] at h2
   exact h2
 · intro hz
   obtain ⟨h1,h2⟩:=h.2 z hz
   obtain ⟨k,rfl⟩:=Int.eq_ofNat_of_zero_le h1
   exact mem_of.2 ⟨by omega,by rw [hn k (by omega),decide_eq_true_eq];exact hz⟩
theorem wthL_congr {g:List (List Int)} {sm l l':List Int} (h:∀ z,z ∈ l↔z ∈ l'):wthL g sm l=wthL g sm l':=by
 unfold wthL
 congr 1
 apply List.filter_congr
 intro i _
 unfold wthB
 congr 1
 funext k
 rw [decide_eq_decide]
 exact h k
theorem ris_bits {l:List Int} {K:Nat} (h:RisL l K):∃ n,n<2 ^ K∧(bitL K n).length=l.length∧∀ g sm,wthL g sm (bitL K n)=wthL g sm l:=by
 obtain ⟨n,h1,h2⟩:=bits_of (fun k=>decide ((k:Int) ∈ l)) K
 have hm:=ris_mem h h2
 refine ⟨n,h1,?_,fun g sm=>wthL_congr hm⟩
 rw [← cnt_ris (bitL_ris K n),← cnt_ris h]
 exact cnt_congr fun k _=>hm _
def FwJ (g:List (List Int)) (K:Nat) (sm:List Int) (n:Nat) (best:List Int) (found:Bool):Prop :=
 (found=false∧best=[]∧∀ n',n'<n→wthL g sm (bitL K n')≤(bitL K n').length) ∨
 (found=true∧RisL best K∧best.length<wthL g sm best∧∀ n',n'<n→(bitL K n').length<wthL g sm (bitL K n')→best.length≤(bitL K n').length)
theorem FwJ.start (g:List (List Int)) (K:Nat) (sm:List Int):FwJ g K sm 0 [] false:=.inl ⟨rfl,rfl,fun n' h=>by omega⟩
theorem FwJ.leave {g:List (List Int)} {K:Nat} {sm:List Int} {n:Nat} {best:List Int} {found:Bool} (h:FwJ g K sm n best found) (hw:wthL g sm (bitL K n)≤(bitL K n).length):FwJ g K sm (n+1) best found:=by
 rcases h with ⟨h1,h2,h3⟩ | ⟨h1,h2,h3,h4⟩
 · refine .inl ⟨h1,h2,fun n' hn' => ?_⟩
   by_cases e:n'=n
   · subst e;exact hw
   · exact h3 n' (by omega)
 · refine .inr ⟨h1,h2,h3,fun n' hn' ho => ?_⟩
   by_cases e:n'=n
   · subst e;omega
   · exact h4 n' (by omega) ho
theorem FwJ.keep {g:List (List Int)} {K:Nat} {sm:List Int} {n:Nat} {best:List Int} (h:FwJ g K sm n best true) (hw:best.length≤(bitL K n).length):FwJ g K sm (n+1) best true:=by
 rcases h with ⟨h1,_⟩ | ⟨h1,h2,h3,h4⟩
 · cases h1
 · refine .inr ⟨h1,h2,h3,fun n' hn' ho => ?_⟩
   by_cases e:n'=n
   · subst e;exact hw
   · exact h4 n' (by omega) ho
theorem FwJ.take {g:List (List Int)} {K:Nat} {sm:List Int} {n:Nat} {best:List Int} {found:Bool} (h:FwJ g K sm n best found) (ho:(bitL K n).length<wthL g sm (bitL K n)) (hw:found=true→(bitL K n).length≤best.length):FwJ g K sm (n+1) (bitL K n) true:=by
 refine .inr ⟨rfl,bitL_ris K n,ho,fun n' hn' ho' => ?_⟩
 by_cases e:n'=n
 · subst e;exact Nat.le_refl _
 · rcases h with ⟨h1,h2,h3⟩ | ⟨h1,h2,h3,h4⟩
   · have:=h3 n' (by omega);omega
   · have:=h4 n' (by omega) ho'
     have:=hw h1
     omega
theorem FwJ.done {g:List (List Int)} {K:Nat} {sm:List Int} {best:List Int} {found:Bool} (h:FwJ g K sm (2 ^ K) best found):FewP g K sm best found:=by
 rcases h with ⟨rfl,rfl,h3⟩ | ⟨rfl,h2,h3,h4⟩
 · refine ⟨rfl,.inr fun m' hm' l' hl' => ?_⟩
   obtain ⟨e,hr⟩:=setsL_ris.1 hl'
   obtain ⟨n,n1,n2,n3⟩:=ris_bits hr
   have:=h3 n n1
   rw [n2,n3] at this
   omega
 · refine ⟨best.length,h2.len,setsL_ris.2 ⟨rfl,h2⟩,h3,fun m' hm' l' hl' => ?_⟩
   obtain ⟨e,hr⟩:=setsL_ris.1 hl'
   obtain ⟨n,n1,n2,n3⟩:=ris_bits hr
   have:=h4 n n1
   rw [n2,n3] at this
   omega
end JM
section
namespace JM
def MinJ (s:List Int) (z:Int):Prop:=z ∈ s∧∀ y ∈ s,z≤y
theorem MinJ.one (z:Int):MinJ [z] z:=⟨List.mem_singleton.2 rfl,fun y hy=>by rw [List.mem_singleton.1 hy];exact Int.le_refl _⟩
theorem MinJ.keep {s:List Int} {z y:Int} (h:MinJ s z) (hy:z≤y):MinJ (s ++ [y]) z:=⟨List.mem_append_left _ h.1,fun x hx=>by
 rcases List.mem_append.1 hx with hx | hx
 · exact h.2 x hx
 · rw [List.mem_singleton.1 hx];exact hy⟩
theorem MinJ.take {s:List Int} {z y:Int} (h:MinJ s z) (hy:y<z):MinJ (s ++ [y]) y:=⟨List.mem_append_right _ (List.mem_singleton.2 rfl),fun x hx=>by
 rcases List.mem_append.1 hx with hx | hx
 · have:=h.2 x hx;omega
 · rw [List.mem_singleton.1 hx];exact Int.le_refl _⟩
def ByJ (s:List Int) (z:Int):Prop:=(s=[]∧z = -1)∨(MinJ s z∧0≤z)
theorem ByJ.nil:ByJ [] (-1):=.inl ⟨rfl,rfl⟩
theorem ByJ.low {s:List Int} {z:Int} (h:ByJ s z):-1≤z:=by rcases h with ⟨_,h⟩ | ⟨_,h⟩ <;> omega
theorem ByJ.take {s t:List Int} {z y:Int} (h:ByJ s z) (ht:MinJ t y) (h0:0≤y) (hy:z<0∨y<z):ByJ (s ++ t) y:=by
 rcases h with ⟨rfl,rfl⟩ | ⟨h1,h2⟩
 · exact .inr ⟨by simpa using ht,h0⟩
 · refine .inr ⟨⟨List.mem_append_right _ ht.1,fun x hx => ?_⟩,h0⟩
   rcases List.mem_append.1 hx with hx | hx
   · have:=h1.2 x hx;omega
   · exact ht.2 x hx
theorem ByJ.keep {s t:List Int} {z y:Int} (h:ByJ s z) (ht:MinJ t y) (h0:0≤y) (hy:¬ z<0) (hy2:¬ y<z):ByJ (s ++ t) z:=by
 rcases h with ⟨rfl,rfl⟩ | ⟨h1,h2⟩
 · exact absurd (by decide) hy
 · refine .inr ⟨⟨List.mem_append_left _ h1.1,fun x hx => ?_⟩,h2⟩
   rcases List.mem_append.1 hx with hx | hx
   · exact h1.2 x hx
   · have:=ht.2 x hx;omega
theorem ByJ.done {s:List Int} {z:Int} (h:ByJ s z) (hs:1≤s.length):MinJ s z:=by
 rcases h with ⟨rfl,_⟩ | ⟨h1,_⟩
 · simp at hs
 · exact h1
section
variable {r:List Int} {b:List (List Int)} {p:List Int}
theorem PrM.rowPos (h:PrM r b p) {l:List Int} (i:Nat) (hi:i<b.length) (hm:mst r.length (gn r b) (ov r p) i):∀ z ∈ farRow l (b.getD i []) p ((wantL b p).getD i []),1≤z:=by
 intro z hz
 have hb:b.getD i []≠[]:=fun e=>by
   have h1:=h.ut0 i e
   unfold mst at hm
   omega
 by_cases hw:wt r.length (gn r b) (ov r p) (fun k=>(k:Int) ∈ l) i
 · rw [h.row i hi hw] at hz
   unfold mst at hm
   rcases mem_farG.1 hz with rfl | ⟨k,hk,hn,rfl⟩
   · omega
   · have h2:=slack hw hk hn
     rw [gn_ov hb] at h2
     exact h2
 · rw [h.rowNil i hi hm hw] at hz;cases hz
end
end JM
end
section
open Go.RowKit Go.Shelf
attribute [local go_sem] Oper.semAt_some
noncomputable def leastN (P:Nat→Prop):Nat:=by
 classical
 exact if h:∃ n,P n∧∀ m,P m→n≤m then Classical.choose h else 0
theorem leastN_ex {P:Nat→Prop}:∀ {n:Nat},P n→∃ n,P n∧∀ m,P m→n≤m:=by
 intro n
 induction n using Nat.strongRecOn with
 | ind n ih =>
   intro h
   by_cases hm:∃ m,m<n∧P m
   · obtain ⟨m,h1,h2⟩:=hm;exact ih m h1 h2
   · exact ⟨n,h,fun m hp=>by
       apply Classical.byContradiction
       intro hlt
       exact hm ⟨m,by omega,hp⟩⟩
theorem leastN_spec {P:Nat→Prop} {n:Nat} (h:P n):P (leastN P)∧leastN P≤n:=by
 have hx:=leastN_ex h
 unfold leastN
 rw [dif_pos hx]
 exact ⟨(Classical.choose_spec hx).1,(Classical.choose_spec hx).2 n h⟩
theorem isI_touch_ne {S:Nat→Prop} {W W':World} {a:Option Addr} {n c:Nat} {l:List Int} (h:IsI W a n c l) (ht:Touch S W W') (hs:∀ k off,a=some ⟨k,off,none⟩→¬ S k):IsI W' a n c l:=by
 obtain ⟨h1,h2,h3,h4 | ⟨b,off,rfl,hlt,hc⟩⟩:=h
 · exact ⟨h1,h2,h3,.inl h4⟩
 · exact ⟨h1,h2,h3,.inr ⟨b,off,rfl,Nat.lt_of_lt_of_le hlt ht.size,fun i hi=>ht.cell (hc i hi) (hs b off rfl)⟩⟩
theorem KeepAll.of_below {ob:Nat} {W W':World} (h:Below W.heap.size W W'):KeepAll ob W W':=⟨Touch.of_below h,h.size,fun k o hk _=>below_heap h hk (lt_of_heap hk)⟩
theorem KeepAll.trans {ob:Nat} {A B C:World} (h:KeepAll ob A B) (k:KeepAll ob B C):KeepAll ob A C:=⟨h.1.trans k.1,h.2.trans k.2⟩
theorem KeepAll.below {ob n₀:Nat} {W W':World} (h:KeepAll ob W W') (h1:n₀≤ob) (h2:n₀≤W.heap.size):Below n₀ W W':=h.1.below h2 (fun k hk e=>by omega)
set_option maxHeartbeats 1000000 in
theorem rsteps_any (x:MkA) (w:World) :
   Calls Tryz.prog 68 #[.agg x.cells.toArray] w fun e w' => e=.returned (.func (.func 82) #[] #[.pointer (some ⟨w.heap.size,0,none⟩)])∧w'=w.alloc (.cells x.cells.toArray 25 (0,0)):=by
 obtain ⟨ra,rn,rc,ba,bn,bc,bv,oa,on,oc⟩:=x
 unfold MkA.cells
 dsimp only
 go_enter Tryz.func68,Tryz.ntmps68
 go_wp2
 go_ret
 exact ⟨rfl,rfl⟩
def LastP (m:MkC) (xs:List SlX):Prop:=∃ y,xs.getLast?=some y∧JM.RisP m.r m.b y.l∧JM.Leastp m.b.length m.r.length (JM.gn m.r m.b) (JM.ov m.r y.l)
def StQ (m:MkC) (ob:Nat) (W:World) (J:List SlX→World→Prop) (n:Nat) (v q:Value) (wr:World):Prop :=
 (∃ a c l pre,v=.slice a l.length c∧q=.bool true∧J pre wr∧JM.RisP m.r m.b l∧IsI wr a l.length c l∧(∀ k off,a=some ⟨k,off,none⟩→k≠ob)∧KeepAll ob W wr∧n=1+(8000000 - JM.sumN m.r.length (JM.ov m.r l)).toNat) ∨
 (∃ xs a k c,v=.slice a k c∧q=.bool false∧LastP m xs∧J xs wr∧KeepAll ob W wr∧n=0)
set_option maxRecDepth 100000 in
set_option maxHeartbeats 4000000 in
theorem steps1_ok (x:MkA) (m:MkC) (w0:World) (ob tb:Nat) (w:World) (hM:MkT w0 x m) (hob:w0.heap.size≤ob) (hb:Below w0.heap.size w0 w) (ht:w.heap[tb]?=some (.cells x.cells.toArray 25 (0,0))) (hne:tb≠ob) (hobw:ob<w.heap.size) :
   SeqK Tryz.prog 82 #[.pointer (some ⟨tb,0,none⟩)] SlX.enc (fun y W=>IsI W y.a y.n y.c y.l) (KeepAll ob) (LastP m) w:=by
 intro l J Jx W hW hl hJ hJx hY h0
 have hbW:=hb.trans (hW.mono hb.size)
 have htW:=below_heap hW ht (lt_of_heap ht)
 have htl:=lt_of_heap ht
 have hWs:=hW.size
 obtain ⟨ra,rn,rc,ba,bn,bc,bv,oa,on,oc⟩:=x
 have hr:=hM.r
 have hbb:=hM.b
 have ho:=hM.o
 unfold MkA.cells at htW
 dsimp only at hr hbb ho htW
 obtain rfl:=hr.1
 obtain rfl:=hbb.1
 obtain rfl:=ho.1
 have c0:W.cell? ⟨tb,0,none⟩=some (.slice ra m.r.length rc):=by rw [cell_of_block htW];rfl
 have c1:W.cell? ⟨tb,1,none⟩=some (.slice ba m.b.length bc):=by rw [cell_of_block htW];rfl
 have c2:W.cell? ⟨tb,2,none⟩=some (.slice oa m.o.length oc):=by rw [cell_of_block htW];rfl
 have HMK:=Lib.hid (mktB_ok hM.ok)
 have hr8:=(mktB_ok hM.ok).hk.2
 have HR:=Lib.hid (hr.below hbW)
 have HM:=Lib.hid hM
 have HBW:=Lib.hid hbW
 have HJ:=Lib.hid hJ
 have HJX:=Lib.hid hJx
 have HY:=Lib.hid hY
 have H0:=Lib.hid h0
 clear hM hr hbb ho hJ hJx hY h0 hW hb ht htW
 refine callsIn_of_wp Tryz.func82 rfl trivial ?_ rfl
 simp only [Tryz.ntmps82,List.size_toArray,List.length_cons,List.length_nil,Nat.reduceAdd,Nat.reduceSub,Array.replicate_succ,Array.replicate_zero,List.push_toArray,List.append_toArray,List.nil_append,List.cons_append]
 gi_wp2_with fail
 refine ⟨trivial,rfl,?_⟩
 refine (callsIn_wide.2 (iclone_any ra m.r.length rc m.r W HR.out (by omega))).mono ?_;rintro e w1 ⟨a1,d1,rfl,hb1,ho1⟩
 have HS0:Hid (StQ m ob W J (1+(8000000 - JM.sumN m.r.length (JM.ov m.r m.r)).toNat) (.slice a1 m.r.length d1) (.bool true) w1):=Lib.hid (.inl ⟨a1,d1,m.r,[],rfl,rfl,own_below HJ.out H0.out hb1,JM.RisP.start HMK.out,isI_of_owns ho1 rfl,fun k off e=>by
   subst e
   have:=owns_base ho1 k rfl
   omega,KeepAll.of_below hb1,rfl⟩)
 clear hb1 ho1 H0 HR
 gi_wp2_with fail
 gi_loopw [3,4] (fun v q wr => ∃ n,StQ m ob W J n v q wr) (fun v q wr=>leastN fun n=>StQ m ob W J n v q wr)
 case atStart=>exact ⟨_,HS0.out⟩
 case round =>
   obtain ⟨n,hn⟩:=hrel
   have hs:=(leastN_spec (P:=fun n=>StQ m ob W J n _ _ wr) hn).1
   have HMIN:=Lib.hid (fun (v' q':Value) (w':World) (n':Nat) (h:StQ m ob W J n' v' q' w')=>(leastN_spec (P:=fun n=>StQ m ob W J n v' q' w') h).2)
   clear hn
   rcases hs with ⟨a,c,p,pre,rfl,rfl,hJp,hR,hI,hne2,hk,hnn⟩ | ⟨xs,a,k,c,rfl,rfl,hS,hJp,hk,hnn⟩
   · have HN:=Lib.hid hnn
     obtain ⟨fn,tmps,assign,body,hy,hRd⟩:=HY.out pre ⟨a,p.length,c,p⟩ wr hk.1.size hJp hI
     dsimp only [SlX.enc] at hy hRd
     have HRD:=Lib.hid hRd
     have HRP:=Lib.hid hR
     have HI:=Lib.hid hI
     have HK:=Lib.hid hk
     have HNE:=Lib.hid hne2
     clear hRd hR hI hk hJp hne2 hnn
     gi_wp2_with fail
     refine ⟨rfl,?_⟩
     refine HRD.out.mono ?_
     rintro e W3 (⟨rfl,hJ3,hk3⟩ | ⟨rfl,hJx3,hk3⟩)
     · have HK3:=Lib.hid (HK.out.trans hk3)
       have HI3:=Lib.hid (isI_touch_ne HI.out hk3.1 (fun k off e=>HNE.out k off e))
       have HJ3:=Lib.hid hJ3
       have HB3:=Lib.hid (HBW.out.trans (HK3.out.below hob HBW.out.size))
       have k0:=HK3.out.1.cell c0 (by exact hne)
       have k1:=HK3.out.1.cell c1 (by exact hne)
       have k2:=HK3.out.1.cell c2 (by exact hne)
       clear hJ3 hk3
       gi_wp2_with fail
       refine ⟨trivial,rfl,?_⟩
       refine (callsIn_wide.2 (at_any ⟨ra,m.r.length,rc,ba,m.b.length,bc,bv,oa,m.o.length,oc⟩ m a p.length c p W3 (HM.out.below HB3.out) HI3.out HRP.out.pr HRP.out.m.pl)).mono ?_
       rintro e w5 ⟨S,rfl,hb5,hS5,hv5⟩
       have HV5:=Lib.hid hv5
       have HB5:=Lib.hid hb5
       clear hv5 hb5 k0 k1 k2
       gi_wp2_with fail
       refine ⟨trivial,rfl,?_⟩
       refine (callsIn_wide.2 (rstep_any S _ m p _ _ w5 HV5.out HRP.out.m.gok (by rw [JM.wantL_length];exact HRP.out.m.mustR) HRP.out.m.farH HRP.out.pr)).mono ?_
       rintro e w6 ⟨a6,c6,out,is,rfl,hb6,hi6,hs6,hf6⟩
       have hb36:=HB5.out.trans (hb6.mono HB5.out.size)
       have HJ6:=Lib.hid (own_below HJ.out HJ3.out hb36)
       have HK6:=Lib.hid (HK3.out.trans (KeepAll.of_below (ob:=ob) hb36))
       have HF6:Hid (∀ k off,a6=some ⟨k,off,none⟩→k≠ob):=Lib.hid (fun k off e=>by
         have h1:=hf6 k off e
         have h2:=HB5.out.size
         have h3:=HK3.out.1.size
         omega)
       cases is with
       | true =>
         obtain ⟨r1,r2⟩:=HRP.out.step hs6
         have HT:Hid (StQ m ob W J (1+(8000000 - JM.sumN m.r.length (JM.ov m.r out)).toNat) (.slice a6 p.length c6) (.bool true) w6):=Lib.hid (.inl ⟨a6,c6,out,_,by rw [← hi6.1],rfl,HJ6.out,r1,by have h9:=hi6.1;rw [← h9];exact hi6,HF6.out,HK6.out,rfl⟩)
         have HLT:Hid (1+(8000000 - JM.sumN m.r.length (JM.ov m.r out)).toNat<1+(8000000 - JM.sumN m.r.length (JM.ov m.r p)).toNat):=Lib.hid (by
           have:=r1.sum
           have:=HRP.out.sum
           omega)
         clear r1 r2 hs6 hf6 hi6 hb6 hb36
         gi_wp2_with fail
         go_roundw
         case rel=>exact ⟨_,HT.out⟩
         case measure=>exact Nat.lt_of_le_of_lt (HMIN.out _ _ _ _ HT.out) (by rw [show (leastN fun n=>StQ m ob W J n (Value.slice a p.length c) (Value.bool true) wr)=_ from HN.out];exact HLT.out)
       | false =>
         obtain ⟨r1,r2⟩:=HRP.out.done hs6
         subst r1
         have HT:Hid (StQ m ob W J 0 (.slice a6 out.length c6) (.bool false) w6):=Lib.hid (.inr ⟨_,a6,_,c6,rfl,rfl,⟨_,List.getLast?_concat,HRP.out,r2⟩,HJ6.out,HK6.out,rfl⟩)
         have HLT:Hid (0<1+(8000000 - JM.sumN m.r.length (JM.ov m.r out)).toNat):=Lib.hid (by omega)
         clear r2 hs6 hf6 hi6 hb6 hb36
         gi_wp2_with fail
         go_roundw
         case rel=>exact ⟨_,HT.out⟩
         case measure=>exact Nat.lt_of_le_of_lt (HMIN.out _ _ _ _ HT.out) (by rw [show (leastN fun n=>StQ m ob W J n (Value.slice a out.length c) (Value.bool true) wr)=_ from HN.out];exact HLT.out)
     · gi_wp2_with fail
       refine bodyPost_end (results_none rfl _ _ _) rfl ?_
       exact ⟨⟨_,rfl⟩,.inr ⟨_,hJx3⟩⟩
   · gi_wp2_with fail
     refine ⟨(fun f hf=>by cases hf),?_⟩
     gi_wp2_with fail
     refine bodyPost_end (results_none rfl _ _ _) rfl ?_
     exact ⟨⟨_,rfl⟩,.inl ⟨xs,hS,hJp⟩⟩
def LeI (w:World) (xs:List SlX) (W:World):Prop:=(∃ a n c,W.heap[w.heap.size+1]?=some (.cells #[.slice a n c] 22 (0,0))∧∀ y,xs.getLast?=some y→a=y.a∧n=y.n∧c=y.c∧IsI W y.a y.n y.c y.l)∧Below w.heap.size w W
theorem leI_own (w:World) (C:Nat) (hC:w.heap.size≤C):OwnFrom C (LeI w):=fun s A A' row hs hg hr=>by
 obtain ⟨⟨a,n,c,h1,h2⟩,h3⟩:=hs
 have hr':∀ r,row=some r→∃ o:Obj,A.heap[r]?=some o∧o.isCells=false:=fun r e=>(hr r e).2
 exact ⟨⟨a,n,c,heap_own h1 hg hr',fun y hy=>by obtain ⟨e1,e2,e3,e4⟩:=h2 y hy;exact ⟨e1,e2,e3,isI_own e4 hg hr'⟩⟩,ownFrom_below (β:=Unit) (Nat.le_refl _) hC () A A' row h3 hg hr⟩
set_option maxRecDepth 100000 in
set_option maxHeartbeats 4000000 in
theorem rleast2_any (x:MkA) (m:MkC) (w:World) (h:MkT w x m) :
   Calls Tryz.prog 47 #[.agg x.cells.toArray] w fun e W => ∃ a c p,e=.returned (.tuple #[.slice a m.r.length c,.int .i64 0])∧Below w.heap.size w W∧IsI W a m.r.length c p∧JM.RisP m.r m.b p∧JM.Leastp m.b.length m.r.length (JM.gn m.r m.b) (JM.ov m.r p):=by
 obtain ⟨ra,rn,rc,ba,bn,bc,bv,oa,on,oc⟩:=x
 have hr:=h.r
 have hbb:=h.b
 have ho:=h.o
 unfold MkA.cells
 dsimp only at hr hbb ho ⊢
 obtain rfl:=hr.1
 obtain rfl:=hbb.1
 obtain rfl:=ho.1
 obtain ⟨b0,m0,m1⟩:=alloc2_facts w (.cells #[.slice ra m.r.length rc,.slice ba m.b.length bc,.slice oa m.o.length oc] 25 (0,0)) (.cells #[.slice none 0 0] 22 (0,0))
 have HM:=Lib.hid h
 have HOK:=Lib.hid h.ok
 have hr8:=(mktB_ok h.ok).hk.2
 clear h hr hbb ho
 refine (callsIn_wide (n:=0)).1 ?_
 refine callsIn_of_wp_marks Tryz.func47 rfl trivial ?_ rfl
 simp only [Tryz.ntmps47,List.size_toArray,List.length_cons,List.length_nil,Nat.reduceAdd,Nat.reduceSub,Array.replicate_succ,Array.replicate_zero,List.push_toArray,List.append_toArray,List.nil_append,List.cons_append]
 refine (wpIn_wide (n:=0)).2 ?_
 go_wp2_with fail
 generalize ((w.alloc (.cells #[.slice ra m.r.length rc,.slice ba m.b.length bc,.slice oa m.o.length oc] 25 (0,0))).alloc (.cells #[.slice none 0 0] 22 (0,0)))=W at b0 m0 m1 ⊢
 have c0:W.cell? ⟨w.heap.size,0,none⟩=some (.slice ra m.r.length rc):=by rw [cell_of_block m0];rfl
 have c1:W.cell? ⟨w.heap.size,1,none⟩=some (.slice ba m.b.length bc):=by rw [cell_of_block m0];rfl
 have c2:W.cell? ⟨w.heap.size,2,none⟩=some (.slice oa m.o.length oc):=by rw [cell_of_block m0];rfl
 have HB0:=Lib.hid b0
 have H1:=Lib.hid m1
 clear b0 m0 m1
 refine (mcheck_any _ ⟨ra,m.r.length,rc,ba,m.b.length,bc,bv,oa,m.o.length,oc⟩ m W (HM.out.below HB0.out).v (by omega)).mono ?_;rintro e w1 ⟨rfl,hb1⟩
 rw [HOK.out]
 have HB1:=Lib.hid (HB0.out.trans (hb1.mono HB0.out.size))
 have H11:=Lib.hid (below_heap hb1 H1.out (lt_of_heap H1.out))
 have k0:=cell_later hb1 c0
 have k1:=cell_later hb1 c1
 have k2:=cell_later hb1 c2
 clear hb1 c0 c1 c2 H1 HB0
 go_wp2_with fail
 refine (rsteps_any ⟨ra,m.r.length,rc,ba,m.b.length,bc,bv,oa,m.o.length,oc⟩ w1).mono ?_;rintro e w2 ⟨rfl,rfl⟩
 have hb2:Below w1.heap.size w1 (w1.alloc (.cells (MkA.cells ⟨ra,m.r.length,rc,ba,m.b.length,bc,bv,oa,m.o.length,oc⟩).toArray 25 (0,0))):=(Below.refl _ _).alloc (Nat.le_refl _) _
 have hv2:=heap_new w1 (.cells (MkA.cells ⟨ra,m.r.length,rc,ba,m.b.length,bc,bv,oa,m.o.length,oc⟩).toArray 25 (0,0))
 generalize w1.alloc (.cells (MkA.cells ⟨ra,m.r.length,rc,ba,m.b.length,bc,bv,oa,m.o.length,oc⟩).toArray 25 (0,0))=W2 at hb2 hv2 ⊢
 have HB2:=Lib.hid (HB1.out.trans (hb2.mono HB1.out.size))
 have HV2:=Lib.hid hv2
 have H12:=Lib.hid (below_heap hb2 H11.out (lt_of_heap H11.out))
 have hob1:=lt_of_heap H11.out
 have hob2:=lt_of_heap H12.out
 clear hb2 hv2 k0 k1 k2
 go_wp2_with fail
 refine wp_rangeK (ob:=w.heap.size+1) (X:=SlX) (gf:=82) (lb:=#[.pointer (some ⟨w1.heap.size,0,none⟩)]) rfl (enters_of Tryz.func82 (by kernel_rfl) rfl)
   (steps1_ok ⟨ra,m.r.length,rc,ba,m.b.length,bc,bv,oa,m.o.length,oc⟩ m w (w.heap.size+1) w1.heap.size W2 HM.out (Nat.le_succ _) HB2.out HV2.out (by omega) hob2) (Below.refl _ _) (fun _=>rfl) (fun y W l o o' h1 h2 h3=>isI_put h1 h2 h3)
   (LeI w) (fun _ _ _=>False) (leI_own w W2.heap.size HB2.out.size) (fun _ _ _ _ _ hs _ _=>hs)
   ⟨⟨none,0,0,H12.out,fun y hy=>by cases hy⟩,HB2.out⟩ ?_ ?_ ?_ ?_ ?_
 rotate_left
 · intro l y Wx K hK
   dsimp only [SlX.enc]
   gi_wp2
   exact hK
 · rintro l pre y Wx hsz ⟨⟨a3,n3,d3,h3,_⟩,hB⟩ hI
   have q3:Wx.cell? ⟨w.heap.size+1,0,none⟩=some (.slice a3 n3 d3):=by rw [cell_of_block h3];rfl
   have z3:Wx.frozen? ⟨w.heap.size+1,0,none⟩=false:=blk_free h3
   have HE:Hid (KeepAll (w.heap.size+1) Wx (Wx.setCell ⟨w.heap.size+1,0,none⟩ (.slice y.a y.n y.c))∧LeI w (pre ++ [y]) (Wx.setCell ⟨w.heap.size+1,0,none⟩ (.slice y.a y.n y.c))):=Lib.hid ⟨⟨(Touch.refl _ _).setCell _ _ (.inl rfl),KeepsOthers.setCell _ _ _⟩,⟨y.a,y.n,y.c,heap_setCell_same _ _ 0 _ _ _ h3,fun y' hy' => by
     rw [List.getLast?_concat] at hy'
     cases hy'
     exact ⟨rfl,rfl,rfl,isI_set_other hI h3 _⟩⟩,hB.setCell (p:=⟨w.heap.size+1,0,none⟩) (Nat.le_succ _) _⟩
   clear h3 hI hB
   gi_wp2_with fail
   exact HE.out
 · rintro D ys Wd hD ⟨y,hy,hR,hL⟩ ⟨⟨a3,n3,d3,h3,hl3⟩,hB⟩ hK
   obtain ⟨rfl,rfl,rfl,hI⟩:=hl3 y hy
   have HR:=Lib.hid hR
   have HL:=Lib.hid hL
   have HI:=Lib.hid hI
   have HB:=Lib.hid hB
   have H3:=Lib.hid h3
   have HK:=Lib.hid hK
   have hyn:y.n=m.r.length:=by rw [hI.1];exact hR.m.pl
   have q3:Wd.cell? ⟨w.heap.size+1,0,none⟩=some (.slice y.a y.n y.c):=by rw [cell_of_block h3];rfl
   clear hy hR hL hl3 hI h3 hB hK
   obtain ⟨ya,yn,yc,yl⟩:=y
   dsimp only at hyn HR HL HI H3 q3
   subst hyn
   go_wp2_with fail
   have HYL:Hid (yl.length=m.r.length):=Lib.hid HR.out.m.pl
   refine (iclone_any ya m.r.length yc yl Wd HI.out (by rw [HYL.out];omega)).mono ?_;rintro e w5 ⟨a5,c5,rfl,hb5,ho5⟩
   rw [HYL.out] at ho5 ⊢
   obtain ⟨r1,r2,r3⟩:=owns_caps ho5
   have h5:=below_heap hb5 H3.out (lt_of_heap H3.out)
   have k5:w5.cell? ⟨w.heap.size+1,0,none⟩=some (.slice ya m.r.length yc):=by rw [cell_of_block h5];rfl
   have z5:w5.frozen? ⟨w.heap.size+1,0,none⟩=false:=blk_free h5
   have HO5:=Lib.hid (isI_of_owns ho5 HYL.out.symm)
   have H5:=Lib.hid h5
   have HB5:=Lib.hid (HB.out.trans (hb5.mono HB.out.size))
   have HK5:=Lib.hid (below_heap hb5 HK.out (lt_of_heap HK.out))
   clear ho5 h5 hb5
   go_wp2_with fail
   refine (iclip_any a5 m.r.length c5 w5 r1 r2 r3).mono ?_;rintro e w6 ⟨rfl,rfl⟩
   go_wp2_with fail
   have hM:MkD w.heap.size [D] (w5.setCell ⟨w.heap.size+1,0,none⟩ (.slice a5 m.r.length m.r.length)):=by
     have h9:=(Below.heap_setCell w5 ⟨w.heap.size+1,0,none⟩ (.slice a5 m.r.length m.r.length) D (by show D≠w.heap.size+1;omega)).trans HK5.out
     exact (MkD.nil _ _).cons h9 (by have:=HB2.out.size;omega) (Nat.le_refl _) (fun _ h=>by cases h)
   refine leaves_marks (B:=w.heap.size) (fun W' => W'.heap[w.heap.size+1]?=some (.cells #[.slice a5 m.r.length m.r.length] 22 (0,0))∧IsI W' a5 m.r.length m.r.length yl∧Below w.heap.size w W') ?_ ?_ [D] _ hM ⟨heap_setCell_same _ _ 0 _ _ _ H5.out,isI_set_other HO5.out.clip H5.out _,HB5.out.setCell (p:=⟨w.heap.size+1,0,none⟩) (Nat.le_succ _) _⟩
   · intro W' l' ⟨a1,a2,a3⟩ hl' ho
     exact ⟨by rw [World.putObj_heap_other (fun e=>by rw [e,ho] at a1;cases a1)];exact a1,isI_put a2 ho rfl,below_put a3 hl'⟩
   · intro W' ⟨a1,a2,a3⟩
     have q1:W'.cell? ⟨w.heap.size+1,0,none⟩=some (.slice a5 m.r.length m.r.length):=by rw [cell_of_block a1];rfl
     exact ⟨.tuple #[.slice a5 m.r.length m.r.length,.int .i64 0],by simp [results,Tryz.results47,asAddr,go_sem,q1],a5,m.r.length,yl,rfl,a3,a2,HR.out,HL.out⟩
 · intros
   contradiction
end
end Go.Proofs.YtmmmjohoihpbeaaGreat
