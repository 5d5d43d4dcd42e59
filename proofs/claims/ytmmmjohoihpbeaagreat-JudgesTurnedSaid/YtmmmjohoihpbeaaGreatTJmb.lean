/- Prices,demands,the least prices at which all can be had;plain Lean;no condition but those typed. -/
import Derived.Test.YtmmmjohoihpbeaaGreatTJma
namespace Go.Proofs.YtmmmjohoihpbeaaGreat
section
namespace JM
open Classical
set_option linter.unusedVariables false
def mx:Nat→(Nat→Int)→Int
 | 0,_=>0
 | k+1,f=>max (mx k f) (f k)
theorem mx_nonneg (K:Nat) (f:Nat→Int):0≤mx K f:=by
 induction K with
 | zero=>exact Int.le_refl _
 | succ k ih=>simp only [mx];omega
theorem mx_ge {K:Nat} {f:Nat→Int} (k:Nat) (hk:k<K):f k≤mx K f:=by
 induction K with
 | zero=>omega
 | succ n ih =>
   simp only [mx]
   by_cases h:k=n
   · subst h;omega
   · have:=ih (by omega);omega
theorem mx_at (K:Nat) (f:Nat→Int):mx K f=0∨∃ k,k<K∧mx K f=f k:=by
 induction K with
 | zero=>exact .inl rfl
 | succ n ih =>
   simp only [mx]
   by_cases h:mx n f≤f n
   · exact .inr ⟨n,by omega,by omega⟩
   · rcases ih with h1 | ⟨k,h1,h2⟩
     · exact .inl (by omega)
     · exact .inr ⟨k,by omega,by omega⟩
theorem mx_le {K:Nat} {f:Nat→Int} {b:Int} (hb:0≤b) (h:∀ k,k<K→f k≤b):mx K f≤b:=by
 rcases mx_at K f with e | ⟨k,hk,e⟩
 · omega
 · rw [e];exact h k hk
theorem mx_eq {K:Nat} {f:Nat→Int} {b:Int} (hb:0≤b) (h:∀ k,k<K→f k≤b) (ha:b=0∨∃ k,k<K∧f k=b):mx K f=b:=by
 have h1:=mx_le hb h
 have h2:=mx_nonneg K f
 rcases ha with e | ⟨k,hk,e⟩
 · omega
 · have:=mx_ge (f:=f) k hk;omega
def ut (K:Nat) (g:Nat→Nat→Int) (p:Nat→Int) (i:Nat):Int:=mx K fun k=>g i k - p k
def dm (K:Nat) (g:Nat→Nat→Int) (p:Nat→Int) (i k:Nat):Prop:=k<K∧g i k - p k=ut K g p i
def mst (K:Nat) (g:Nat→Nat→Int) (p:Nat→Int) (i:Nat):Prop:=0<ut K g p i
def wt (K:Nat) (g:Nat→Nat→Int) (p:Nat→Int) (S:Nat→Prop) (i:Nat):Prop:=mst K g p i∧∀ k,k<K→dm K g p i k→S k
def NoOver (n K:Nat) (g:Nat→Nat→Int) (p:Nat→Int):Prop:=∀ S:Nat→Prop,cnt n (wt K g p S)≤cnt K S
structure Leastp (n K:Nat) (g:Nat→Nat→Int) (p:Nat→Int):Prop where
 pos:∀ k,k<K→0≤p k
 no:NoOver n K g p
 le:∀ q:Nat→Int,(∀ k,k<K→0≤q k)→NoOver n K g q→∀ k,k<K→p k≤q k
structure Few (n K:Nat) (g:Nat→Nat→Int) (p:Nat→Int) (S:Nat→Prop):Prop where
 over:cnt K S<cnt n (wt K g p S)
 few:∀ S':Nat→Prop,cnt K S'<cnt K S→cnt n (wt K g p S')≤cnt K S'
theorem Few.below {n K:Nat} {g:Nat→Nat→Int} {p q:Nat→Int} {S:Nat→Prop} {b:Int} (h:Few n K g p S) (hb:∀ i,i<n→wt K g p S i→b≤ut K g p i∧∀ k,k<K→¬ S k→b≤ut K g p i - (g i k - p k)) (hq:NoOver n K g q) (hpq:∀ k,k<K→p k≤q k) :
   ∀ k,k<K→S k→p k+b≤q k:=by
 intro k0 hk0 hs0
 apply Classical.byContradiction
 intro hlt
 have e1:=cnt_add K S (fun k=>q k<p k+b)
 have hpos:0<cnt K (fun k=>S k∧q k<p k+b):=by
   rw [cnt_one k0 hk0 ⟨hs0,by omega⟩];omega
 have e2:=h.few (fun k=>S k∧¬ q k<p k+b) (by omega)
 have e3:=cnt_add n (wt K g p S) (fun i => ∃ k,k<K∧(S k∧q k<p k+b)∧dm K g p i k)
 have e4:=cnt_mono (n:=n) (P:=fun i=>wt K g p S i∧¬ ∃ k,k<K∧(S k∧q k<p k+b)∧dm K g p i k) (Q:=wt K g p (fun k=>S k∧¬ q k<p k+b)) (fun i hi ⟨⟨h1,h2⟩,h3⟩ => ⟨h1,fun k hk hd=>⟨h2 k hk hd,fun hl=>h3 ⟨k,hk,⟨h2 k hk hd,hl⟩,hd⟩⟩⟩)
 have e5:=cnt_mono (n:=n) (P:=fun i=>wt K g p S i∧∃ k,k<K∧(S k∧q k<p k+b)∧dm K g p i k) (Q:=wt K g q (fun k=>S k∧q k<p k+b)) (fun i hi ⟨hw,k,hk,⟨hs,hl⟩,hd⟩ => by
   obtain ⟨b1,b2⟩:=hb i hi hw
   have hu:g i k - q k≤ut K g q i:=mx_ge (f:=fun k=>g i k - q k) k hk
   have hd2:=hd.2
   refine ⟨by unfold mst;omega,fun k' hk' hd' => ?_⟩
   have hd3:=hd'.2
   have hpk:=hpq k' hk'
   apply Classical.byContradiction
   intro hn
   by_cases hs':S k'
   · have:¬ q k'<p k'+b:=fun hl' => hn ⟨hs',hl'⟩
     have hu2:g i k' - p k'≤ut K g p i:=mx_ge (f:=fun k=>g i k - p k) k' hk'
     omega
   · have:=b2 k' hk' hs'
     omega)
 have e6:=hq (fun k=>S k∧q k<p k+b)
 have:=h.over
 omega
theorem Few.wanted {n K:Nat} {g:Nat→Nat→Int} {p:Nat→Int} {S:Nat→Prop} (h:Few n K g p S) (k:Nat) (hk:k<K) (hs:S k):∃ i,i<n∧wt K g p S i∧dm K g p i k:=by
 apply Classical.byContradiction
 intro hno
 have e1:=cnt_one (P:=S) k hk hs
 have e2:=h.few (fun x=>S x∧x≠k) (by omega)
 have e3:=cnt_mono (n:=n) (P:=wt K g p S) (Q:=wt K g p (fun x=>S x∧x≠k)) (fun i hi hw=>⟨hw.1,fun k' hk' hd=>⟨hw.2 k' hk' hd,fun e=>hno ⟨i,hi,hw,by rw [← e];exact hd⟩⟩⟩)
 have:=h.over
 omega
theorem Few.some {n K:Nat} {g:Nat→Nat→Int} {p:Nat→Int} {S:Nat→Prop} (h:Few n K g p S):∃ i,i<n∧wt K g p S i:=cnt_pos (Nat.lt_of_le_of_lt (Nat.zero_le _) h.over)
theorem dm_some {K:Nat} {g:Nat→Nat→Int} {p:Nat→Int} {i:Nat} (h:mst K g p i):∃ k,dm K g p i k:=by
 rcases mx_at K (fun k=>g i k - p k) with e | ⟨k,hk,e⟩
 · have h1:0<mx K (fun k=>g i k - p k):=h
   omega
 · exact ⟨k,hk,e.symm⟩
theorem slack {K:Nat} {g:Nat→Nat→Int} {p:Nat→Int} {S:Nat→Prop} {i k:Nat} (h:wt K g p S i) (hk:k<K) (hs:¬ S k):1≤ut K g p i - (g i k - p k):=by
 have h1:g i k - p k≤ut K g p i:=mx_ge (f:=fun k=>g i k - p k) k hk
 have h2:g i k - p k≠ut K g p i:=fun e=>hs (h.2 k hk ⟨hk,e⟩)
 omega
theorem lower {n K:Nat} {g:Nat→Nat→Int} {p:Nat→Int} {m:Nat→Option Nat} {R:Nat→Prop} {j:Nat} (hp:Leastp n K g p) (hm:Mt n K m) (hT:∀ i,i<n→mst K g p i→m i≠none) (hE:∀ i k,i<n→m i=some k→dm K g p i k)
   (hR:∀ k,k<K→R k→0<p k) (hj:j<K) (hRj:R j) (hcl:∀ i k,i<n→R k→dm K g p i k→∃ k',m i=some k'∧R k'):False:=by
 have key:∀ i,i<n→(mst K g (fun k=>if R k then p k - 1 else p k) i→m i≠none)∧∀ k,m i=some k→dm K g (fun k=>if R k then p k - 1 else p k) i k:=by
   intro i hi
   by_cases hA:∃ k,R k∧dm K g p i k
   · obtain ⟨k,hk,hd⟩:=hA
     obtain ⟨k',e,hk'⟩:=hcl i k hi hk hd
     have hu:ut K g (fun k=>if R k then p k - 1 else p k) i=ut K g p i+1:=mx_eq (by have:=mx_nonneg K (fun k=>g i k - p k);unfold ut;omega) (fun x hx=>by
       have:g i x - p x≤ut K g p i:=mx_ge (f:=fun k=>g i k - p k) x hx
       dsimp only
       split <;> omega) (.inr ⟨k,hd.1,by dsimp only;rw [if_pos hk];have:=hd.2;omega⟩)
     have hd':=hE i k' hi e
     refine ⟨fun _=>by rw [e];simp,fun x ex => ?_⟩
     rw [e] at ex;cases ex
     exact ⟨hd'.1,by rw [hu];dsimp only;rw [if_pos hk'];have:=hd'.2;omega⟩
   · have hnR:∀ x,dm K g p i x→¬ R x:=fun x hd hr=>hA ⟨x,hr,hd⟩
     have hu:ut K g (fun k=>if R k then p k - 1 else p k) i=ut K g p i:=mx_eq (mx_nonneg _ _) (fun x hx=>by
       have h1:g i x - p x≤ut K g p i:=mx_ge (f:=fun k=>g i k - p k) x hx
       dsimp only
       split
       · rename_i hr
         have h2:g i x - p x≠ut K g p i:=fun e=>hnR x ⟨hx,e⟩ hr
         omega
       · exact h1) (by
       rcases mx_at K (fun k=>g i k - p k) with e | ⟨k,hk,e⟩
       · exact .inl e
       · exact .inr ⟨k,hk,by dsimp only;rw [if_neg (hnR k ⟨hk,e.symm⟩)];exact e.symm⟩)
     refine ⟨fun hmst=>hT i hi (by unfold mst at hmst ⊢;rwa [hu] at hmst),fun x ex => ?_⟩
     have hd:=hE i x hi ex
     exact ⟨hd.1,by rw [hu];dsimp only;rw [if_neg (hnR x hd)];exact hd.2⟩
 have h1:NoOver n K g (fun k=>if R k then p k - 1 else p k):=fun S=>hall_back (E:=dm K g (fun k=>if R k then p k - 1 else p k)) (T:=mst K g (fun k=>if R k then p k - 1 else p k)) hm (fun i k hi _ e=>(key i hi).2 k e) (fun i hi ht=>(key i hi).1 ht) S
 have h2:=hp.le _ (fun k hk=>by
   by_cases hr:R k
   · rw [if_pos hr];have:=hR k hk hr;omega
   · rw [if_neg hr];exact hp.pos k hk) h1 j hj
 rw [if_pos hRj] at h2
 omega
theorem sold {n K:Nat} {g:Nat→Nat→Int} {p:Nat→Int} (hp:Leastp n K g p):∃ m,Mt n K m∧In n (dm K g p) m∧(∀ i,i<n→mst K g p i→m i≠none)∧∀ k,k<K→0<p k→Used n m k:=by
 obtain ⟨m0,a1,a2,a3⟩:=hall (n:=n) (K:=K) (E:=dm K g p) (T:=mst K g p) hp.no
 obtain ⟨m,⟨hm,hE,hT⟩,hmax⟩:=greatest (fun m=>Mt n K m∧In n (dm K g p) m∧∀ i,i<n→mst K g p i→m i≠none) (fun m=>cnt K (fun k=>0<p k∧Used n m k)) K (fun _ _=>cnt_le _ _) m0 ⟨a1,a2,a3⟩
 refine ⟨m,hm,hE,hT,fun j hj hpj=>Classical.byContradiction fun hu => ?_⟩
 have hv:=inv_mt hm
 have hvE:=inv_in hm hE
 have hvj:inv n m j=none:=inv_none.2 hu
 have more:∀ m2,Mt K n m2→In K (fun k i=>dm K g p i k) m2→(∀ i,i<n→m i≠none→Used K m2 i)→m2 j≠none→(∀ k,k<K→0<p k→k≠j→inv n m k≠none→m2 k≠none)→False:=by
   intro m2 k1 k2 k3 k4 k5
   have q1:=inv_mt k1
   have:=hmax (inv K m2) ⟨q1,inv_in k1 k2,fun i hi ht e=>(inv_none.1 e) (k3 i hi (hT i hi ht))⟩
   have e1:=cnt_one (n:=K) (P:=fun k=>0<p k∧Used n (inv K m2) k) j hj ⟨hpj,(inv_used k1 j hj).2 k4⟩
   have e2:=cnt_mono (n:=K) (P:=fun k=>0<p k∧Used n m k) (Q:=fun k=>(0<p k∧Used n (inv K m2) k)∧k≠j) (fun k hk hq=>by
     have hne:k≠j:=fun e=>hu (by rw [← e];exact hq.2)
     exact ⟨⟨hq.1,(inv_used k1 k hk).2 (k5 k hk hq.1 hne (fun e=>inv_none.1 e hq.2))⟩,hne⟩)
   omega
 have r1:∀ k,Rch K n (fun k i=>dm K g p i k) (inv n m) j k→0<p k:=by
   intro k hr
   apply Classical.byContradiction
   intro hpk
   have hne:k≠j:=fun e=>hpk (by rw [e];exact hpj)
   obtain ⟨m2,k1,k2,k3,k4,k5,k6⟩:=hr.move hv hvE hj hvj
   exact more m2 k1 k2 (fun i hi h=>(k6 i).2 ((inv_used hm i hi).2 h)) (k4 hne) (fun x hx hpx hxj h e=>by
     have hxk:x≠k:=fun e=>hpk (by rw [← e];exact hpx)
     exact h ((k5 x hxk hxj).1 e))
 have r2:∀ i k,i<n→Rch K n (fun k i=>dm K g p i k) (inv n m) j k→dm K g p i k→m i≠none:=by
   intro i k hi hr hd hn
   obtain ⟨m2,k1,k2,k3,k4,k5,k6⟩:=hr.move hv hvE hj hvj
   have hui:¬ Used K m2 i:=fun h=>((inv_used hm i hi).1 ((k6 i).1 h)) hn
   obtain ⟨q1,q2⟩:=k1.give k2 k i hi hui hd
   refine more _ q1 q2 (fun i' hi' h => ?_) ?_ (fun x hx hpx hxj h => ?_)
   · obtain ⟨x,hx,e⟩:=(k6 i').2 ((inv_used hm i' hi').2 h)
     have hxk:x≠k:=fun e2=>by rw [e2,k3] at e;cases e
     exact ⟨x,hx,by (try dsimp only);rw [if_neg hxk];exact e⟩
   · try dsimp only
     by_cases e:j=k
     · rw [if_pos e];simp
     · rw [if_neg e];exact k4 (fun e2=>e e2.symm)
   · try dsimp only
     by_cases e:x=k
     · rw [if_pos e];simp
     · rw [if_neg e];exact fun e2=>h ((k5 x e hxj).1 e2)
 exact lower (R:=Rch K n (fun k i=>dm K g p i k) (inv n m) j) hp hm hT hE (fun k _ hr=>r1 k hr) hj Rch.base (fun i k hi hr hd=>by
   obtain ⟨k',e⟩:=Option.ne_none_iff_exists'.1 (r2 i k hi hr hd)
   have hk':=hm.lt i k' hi e
   exact ⟨k',e,hr.step hd hi hk' ((inv_some hm).2 ⟨hi,e⟩)⟩)
theorem Leastp.dual {n K:Nat} {g:Nat→Nat→Int} {p:Nat→Int} (hp:Leastp n K g p):Dual n K g (ut K g p) p :=
 ⟨fun i _=>mx_nonneg _ _,hp.pos,fun i k _ hk=>by have:g i k - p k≤ut K g p i:=mx_ge (f:=fun k=>g i k - p k) k hk;omega⟩
structure IsBest (n K:Nat) (g:Nat→Nat→Int) (w:Int):Prop where
 le:∀ m,Mt n K m→sumN n (gval g m)≤w
 ex:∃ m,Mt n K m∧sumN n (gval g m)=w
theorem IsBest.uniq {n K:Nat} {g:Nat→Nat→Int} {w w':Int} (h:IsBest n K g w) (h':IsBest n K g w'):w=w':=by
 obtain ⟨m,h1,h2⟩:=h.ex
 obtain ⟨m',h3,h4⟩:=h'.ex
 have:=h.le m' h3
 have:=h'.le m h1
 omega
theorem Leastp.best {n K:Nat} {g:Nat→Nat→Int} {p:Nat→Int} {w:Int} (hp:Leastp n K g p) (hw:IsBest n K g w):w=sumN n (ut K g p)+sumN K p:=by
 obtain ⟨m,h1,h2,h3,h4⟩:=sold hp
 have e:=Dual.eq (g:=g) (u:=ut K g p) (p:=p) h1 (fun i k hi e=>by have:=(h2 i k hi e).2;omega) (fun i hi e=>by
   have h5:¬ mst K g p i:=fun h=>h3 i hi h e
   have h6:=mx_nonneg K (fun k=>g i k - p k)
   unfold mst at h5
   unfold ut at h5 ⊢
   omega) (fun k hk hu=>by
   have h5:¬ 0<p k:=fun h=>hu (h4 k hk h)
   have:=hp.pos k hk
   omega)
 have h5:=hw.le m h1
 obtain ⟨m',h6,h7⟩:=hw.ex
 have h8:=hp.dual.le h6
 omega
theorem Leastp.tight {n K:Nat} {g:Nat→Nat→Int} {p:Nat→Int} {w:Int} (hp:Leastp n K g p) (hw:IsBest n K g w) {m:Nat→Option Nat} (hm:Mt n K m) (he:sumN n (gval g m)=w) :
   In n (dm K g p) m∧(∀ i,i<n→m i=none→ut K g p i=0)∧(∀ k,k<K→¬ Used n m k→p k=0):=by
 obtain ⟨h1,h2,h3⟩:=hp.dual.tight hm (by have:=hp.best hw;omega)
 exact ⟨fun i k hi e=>⟨hm.lt i k hi e,by have:=h1 i k hi e;omega⟩,h2,h3⟩
theorem Leastp.pays {n K:Nat} {g:Nat→Nat→Int} {p:Nat→Int} {w w':Int} {i0 j:Nat} (hp:Leastp n K g p) (hw:IsBest n K g w) {m:Nat→Option Nat} (hm:Mt n K m) (he:sumN n (gval g m)=w) (hi0:i0<n) (hmi:m i0=some j)
   (hw':IsBest n K (fun i k=>if i=i0 then -1 else g i k) w'):p j=w' - (w - g i0 j):=by
 obtain ⟨hE,hN,hU⟩:=hp.tight hw hm he
 have hj:=hm.lt i0 j hi0 hmi
 have hT:∀ i,i<n→mst K g p i→m i≠none:=fun i hi h e=>by have:=hN i hi e;unfold mst at h;omega
 have hm0:Mt n K (fun x=>if x=i0 then none else m x):=⟨fun i k hi e=>by
   try dsimp only at e
   split at e
   · cases e
   · exact hm.lt i k hi e,fun i k z hi hk e1 e2=>by
   try dsimp only at e1 e2
   split at e1
   · cases e1
   · split at e2
     · cases e2
     · exact hm.inj i k z hi hk e1 e2⟩
 have hE0:In n (fun i k=>dm K g p i k∧i≠i0) (fun x=>if x=i0 then none else m x):=fun i k hi e=>by
   try dsimp only at e
   split at e
   · cases e
   · rename_i hne;exact ⟨hE i k hi e,hne⟩
 have hu0:∀ k,Used n (fun x=>if x=i0 then none else m x) k↔Used n m k∧k≠j:=fun k=>by
   constructor
   · rintro ⟨i,hi,e⟩
     try dsimp only at e
     split at e
     · cases e
     · rename_i hne
       exact ⟨⟨i,hi,e⟩,fun ek=>hne (hm.inj i i0 j hi hi0 (by rw [← ek];exact e) hmi)⟩
   · rintro ⟨⟨i,hi,e⟩,hne⟩
     refine ⟨i,hi,?_⟩
     have hii:i≠i0:=fun e2=>by rw [e2,hmi] at e;cases e;exact hne rfl
     try dsimp only
     rw [if_neg hii];exact e
 -- all others can have what they want, and all that is dear is sold
 have main:∃ m1,Mt n K m1∧In n (fun i k=>dm K g p i k∧i≠i0) m1∧(∀ i,i<n→i≠i0→m i≠none→m1 i≠none)∧∀ k,k<K→0<p k→Used n m1 k:=by
   by_cases hpj:0<p j
   · apply Classical.byContradiction
     intro hno
     have hv:=inv_mt hm0
     have hvE:=inv_in hm0 hE0
     have hvj:inv n (fun x=>if x=i0 then none else m x) j=none:=inv_none.2 (fun h=>((hu0 j).1 h).2 rfl)
     have more:∀ m2,Mt K n m2→In K (fun k i=>dm K g p i k∧i≠i0) m2→(∀ i,i<n→i≠i0→m i≠none→Used K m2 i)→(∀ k,k<K→0<p k→m2 k≠none)→False:=by
       intro m2 k1 k2 k3 k4
       exact hno ⟨inv K m2,inv_mt k1,inv_in k1 k2,fun i hi hne h e=>inv_none.1 e (k3 i hi hne h),fun k hk hpk=>(inv_used k1 k hk).2 (k4 k hk hpk)⟩
     have hused:∀ i,i<n→i≠i0→m i≠none→Used K (inv n (fun x=>if x=i0 then none else m x)) i:=fun i hi hne h=>(inv_used hm0 i hi).2 (by (try dsimp only);rw [if_neg hne];exact h)
     have hdear:∀ k,k<K→0<p k→k≠j→inv n (fun x=>if x=i0 then none else m x) k≠none:=fun k hk hpk hne e=>inv_none.1 e ((hu0 k).2 ⟨Classical.byContradiction fun h=>by have:=hU k hk h;omega,hne⟩)
     have r1:∀ k,k<K→Rch K n (fun k i=>dm K g p i k∧i≠i0) (inv n (fun x=>if x=i0 then none else m x)) j k→0<p k:=by
       intro k hk hr
       apply Classical.byContradiction
       intro hpk
       have hne:k≠j:=fun e=>hpk (by rw [e];exact hpj)
       obtain ⟨m2,k1,k2,k3,k4,k5,k6⟩:=hr.move hv hvE hj hvj
       exact more m2 k1 k2 (fun i hi hne h=>(k6 i).2 (hused i hi hne h)) (fun x hx hpx=>by
         by_cases hxj:x=j
         · rw [hxj];exact k4 hne
         · have hxk:x≠k:=fun e=>hpk (by rw [← e];exact hpx)
           exact fun e=>hdear x hx hpx hxj ((k5 x hxk hxj).1 e))
     have r2:∀ i k,i<n→i≠i0→Rch K n (fun k i=>dm K g p i k∧i≠i0) (inv n (fun x=>if x=i0 then none else m x)) j k→dm K g p i k→m i≠none:=by
       intro i k hi hii hr hd hn
       obtain ⟨m2,k1,k2,k3,k4,k5,k6⟩:=hr.move hv hvE hj hvj
       have hui:¬ Used K m2 i:=fun h=>by
         have:=(inv_used hm0 i hi).1 ((k6 i).1 h)
         try dsimp only at this
         rw [if_neg hii] at this
         exact this hn
       obtain ⟨q1,q2⟩:=k1.give k2 k i hi hui ⟨hd,hii⟩
       refine more _ q1 q2 (fun i' hi' hne' h => ?_) (fun x hx hpx => ?_)
       · obtain ⟨x,hx,e⟩:=(k6 i').2 (hused i' hi' hne' h)
         have hxk:x≠k:=fun e2=>by rw [e2,k3] at e;cases e
         exact ⟨x,hx,by (try dsimp only);rw [if_neg hxk];exact e⟩
       · try dsimp only
         by_cases e:x=k
         · rw [if_pos e];simp
         · rw [if_neg e]
           by_cases hxj:x=j
           · rw [hxj];exact k4 (fun e2=>e (by rw [hxj,e2]))
           · exact fun e2=>hdear x hx hpx hxj ((k5 x e hxj).1 e2)
     exact lower (R:=fun k=>Rch K n (fun k i=>dm K g p i k∧i≠i0) (inv n (fun x=>if x=i0 then none else m x)) j k) hp hm hT hE (fun k hk hr=>r1 k hk hr) hj Rch.base (fun i k hi hr hd=>by
       by_cases hii:i=i0
       · exact ⟨j,by rw [hii];exact hmi,Rch.base⟩
       · obtain ⟨k',e⟩:=Option.ne_none_iff_exists'.1 (r2 i k hi hii hr hd)
         have hk':=hm.lt i k' hi e
         exact ⟨k',e,hr.step ⟨hd,hii⟩ hi hk' ((inv_some hm0).2 ⟨hi,by (try dsimp only);rw [if_neg hii];exact e⟩)⟩)
   · refine ⟨_,hm0,hE0,fun i hi hne h=>by (try dsimp only);rw [if_neg hne];exact h,fun k hk hpk=>(hu0 k).2 ⟨Classical.byContradiction fun h=>by have:=hU k hk h;omega,fun e=>hpj (by rw [← e];exact hpk)⟩⟩
 obtain ⟨m1,a1,a2,a3,a4⟩:=main
 have hi1:m1 i0=none:=Classical.byContradiction fun h=>by
   obtain ⟨k,e⟩:=Option.ne_none_iff_exists'.1 h
   exact (a2 i0 k hi0 e).2 rfl
 have hd:Dual n K (fun i k=>if i=i0 then -1 else g i k) (fun i=>if i=i0 then 0 else ut K g p i) p:=⟨fun i hi=>by
   try dsimp only
   split
   · omega
   · exact mx_nonneg _ _,hp.pos,fun i k hi hk=>by
   try dsimp only
   split
   · have:=hp.pos k hk;omega
   · exact hp.dual.c i k hi hk⟩
 have e1:=Dual.eq (g:=fun i k=>if i=i0 then -1 else g i k) (u:=fun i=>if i=i0 then 0 else ut K g p i) (p:=p) a1 (fun i k hi e=>by
   obtain ⟨h1,h2⟩:=a2 i k hi e
   try dsimp only
   rw [if_neg h2,if_neg h2];have:=h1.2;omega) (fun i hi e=>by
   try dsimp only
   split
   · rfl
   · rename_i hne
     exact hN i hi (Classical.byContradiction fun h=>a3 i hi hne h e)) (fun k hk hu=>by
   have h5:¬ 0<p k:=fun h=>hu (a4 k hk h)
   have:=hp.pos k hk
   omega)
 have e2:=hw'.le m1 a1
 obtain ⟨m2,b1,b2⟩:=hw'.ex
 have e3:=hd.le b1
 have e4:=hp.best hw
 have e5:=sumN_upd (f:=fun i=>if i=i0 then 0 else ut K g p i) (g:=ut K g p) i0 hi0 (fun i hi hne=>by (try dsimp only);rw [if_neg hne])
 try dsimp only at e5
 rw [if_pos rfl] at e5
 have e6:=(hE i0 j hi0 hmi).2
 omega
end JM
end
end Go.Proofs.YtmmmjohoihpbeaaGreat
