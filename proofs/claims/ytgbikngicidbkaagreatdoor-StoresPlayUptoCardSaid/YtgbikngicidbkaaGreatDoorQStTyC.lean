/- A config of its own: its blocks' types;conditions: those typed. -/
import Derived.Test.YtgbikngicidbkaaGreatDoorQStMktKBpMStPlaySStMktPStActStLawM
import Derived.Test.YtgbikngicidbkaaGreatDoorQR20dR20gR20hR20e
namespace Go.Proofs.YtgbikngicidbkaaGreatDoor
open Go.RowKit
set_option linter.unusedVariables false
set_option linter.unusedSimpArgs false
theorem TyC.noBk {w:World} {B k:Nat} (h:TyC w k):¬ BkS w B k:=by
 obtain ⟨cur,t,fz,h1,h2⟩:=h
 rcases h2 with rfl | rfl | rfl
 · exact bkS_not h1 (by decide) (fun κ=>by cases κ <;> decide)
 · exact bkS_not h1 (by decide) (fun κ=>by cases κ <;> decide)
 · exact bkS_not h1 (by decide) (fun κ=>by cases κ <;> decide)
theorem CfO.ty {B:Nat} {w:World} {y:StA} {c:StC} {Q:Nat→Prop} (h:CfO B w y c) (hc:IsCf w Q y c):IsCf w (fun k=>B≤k∧TyC w k) y c:=by
 obtain ⟨⟨g,e0,o0⟩,m,m2,⟨a,cc,vs,e1,o1,hn,hlt,hrow⟩,hm1,hm2,⟨aa,e2,oa⟩,hbl,⟨ua,e3,ou⟩⟩:=h
 have hb:∀ {l:List UInt8} {a:Option Addr} {D:Nat},B≤D→NwB D w a l→∀ b off,a=some ⟨b,off,none⟩→B≤b∧TyC w b:=fun hD hh b off e=>by
   obtain ⟨cq,hh⟩:=hh
   subst e
   obtain ⟨cur,hc⟩:=owns_block hh (k:=b) rfl
   exact ⟨Nat.le_trans hD (owns_base hh b rfl),cur,_,_,hc,.inl rfl⟩
 obtain ⟨p1,p2,p3,p4,p5⟩:=hc.s
 obtain ⟨q1,q2,q3⟩:=Value.slice.inj e1
 obtain ⟨t1,_,_⟩:=Value.slice.inj e2
 obtain ⟨u1,_,_⟩:=Value.slice.inj e3
 have hvs:∀ i (hi:i<c.s.length),y.sv[i]?=vs[i]?:=fun i hi=>by
   have hyl:i<y.sv.length:=by rw [p4.1];exact hi
   have hvl:i<vs.length:=by rw [hn.1];exact hi
   rcases p5 with p5 | ⟨b,off,e,_,hlt,hcell⟩
   · rw [p5] at hi;simp at hi
   · have h1:=hcell i hyl
     rw [e1] at o1
     rcases o1.2 with ⟨_,h0⟩ | ⟨g',cap,cur,e',_,hg',_⟩
     · omega
     · obtain ⟨f1,_,_⟩:=Value.slice.inj e'
       have ha:a=some ⟨b,off,none⟩:=by rw [← q1];exact e
       rw [ha] at f1 o1
       cases f1
       have h2:=cells_of_owns o1 i _ (List.getElem?_eq_getElem hvl)
       rw [Nat.zero_add] at h1
       rw [List.getElem?_eq_getElem hyl,List.getElem?_eq_getElem hvl]
       exact h1.symm.trans h2
 refine ⟨⟨hc.r.1,?_⟩,⟨p1,p2,p3,⟨p4.1,fun i hi => ?_⟩,?_⟩,⟨hc.a.1,fun b off e _=>hb hm1 oa b off (by rw [← t1];exact e)⟩,⟨hc.u.1,fun b off e _=>hb (Nat.le_trans hm1 hm2) ou b off (by rw [← u1];exact e)⟩,hc.t⟩
 · intro b off e hl
   obtain ⟨p,_,_⟩:=Value.slice.inj e0
   rw [p] at e
   cases e
   rw [e0] at o0
   obtain ⟨cur,hq⟩:=owns_block o0 (k:=g) rfl
   exact ⟨owns_base o0 g rfl,cur,_,_,hq,.inr (.inr rfl)⟩
 · obtain ⟨x,n,z,r1,r2⟩:=p4.2 i hi
   obtain ⟨a',s1,s2⟩:=hn.2.1 i hi
   have r1':=r1
   rw [hvs i hi,s1] at r1'
   obtain ⟨w1,w2,w3⟩:=Value.slice.inj (Option.some.inj r1')
   exact ⟨x,n,z,r1,r2.1,fun b off e _=>hb (Nat.le_refl _) s2 b off (by rw [w1];exact e)⟩
 · rcases p5 with p5 | ⟨b,off,e,_,hlt,hcell⟩
   · exact .inl p5
   · refine .inr ⟨b,off,e,?_,hlt,hcell⟩
     have hk:(Value.slice y.sa y.sn y.sc).ownBlock=some b:=by rw [e];rfl
     obtain ⟨cur,hq⟩:=owns_block o1 hk
     exact ⟨owns_base o1 b hk,cur,_,_,hq,.inr (.inl rfl)⟩
end Go.Proofs.YtgbikngicidbkaaGreatDoor
