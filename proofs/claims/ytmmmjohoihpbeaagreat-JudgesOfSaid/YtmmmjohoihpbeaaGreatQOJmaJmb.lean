/- Sums,counts,matchings in plain Lean;no condition but those typed. -/
import Derived.Test.YtmmmjohoihpbeaaGreatRows
namespace Go.Proofs.YtmmmjohoihpbeaaGreat
section
namespace JM
open Classical
set_option linter.unusedVariables false
def sumN:Nat→(Nat→Int)→Int
 | 0,_=>0
 | n+1,f=>sumN n f+f n
theorem sumN_congr {n:Nat} {f g:Nat→Int} (h:∀ i,i<n→f i=g i):sumN n f=sumN n g:=by
 induction n with
 | zero=>rfl
 | succ n ih=>simp only [sumN];rw [ih fun i hi=>h i (by omega),h n (by omega)]
theorem sumN_le {n:Nat} {f g:Nat→Int} (h:∀ i,i<n→f i≤g i):sumN n f≤sumN n g:=by
 induction n with
 | zero=>exact Int.le_refl _
 | succ n ih =>
   have h1:=ih fun i hi=>h i (by omega)
   have h2:=h n (by omega)
   simp only [sumN];omega
theorem sumN_add (n:Nat) (f g:Nat→Int):sumN n (fun i=>f i+g i)=sumN n f+sumN n g:=by
 induction n with
 | zero=>rfl
 | succ n ih=>simp only [sumN,ih];omega
theorem sumN_zero (n:Nat):sumN n (fun _=>0)=0:=by
 induction n with
 | zero=>rfl
 | succ n ih=>simp only [sumN,ih];rfl
theorem sumN_eq {n:Nat} {f g:Nat→Int} (h:∀ i,i<n→f i≤g i) (e:sumN n g≤sumN n f):∀ i,i<n→f i=g i:=by
 induction n with
 | zero=>intro i hi;omega
 | succ n ih =>
   have h1:=sumN_le fun i (hi:i<n)=>h i (by omega)
   have h2:=h n (by omega)
   simp only [sumN] at e
   intro i hi
   by_cases hn:i=n
   · subst hn;omega
   · exact ih (fun i hi=>h i (by omega)) (by omega) i (by omega)
theorem sumN_upd {n:Nat} {f g:Nat→Int} (k:Nat) (hk:k<n) (h:∀ i,i<n→i≠k→f i=g i):sumN n f=sumN n g+(f k - g k):=by
 induction n with
 | zero=>omega
 | succ n ih =>
   simp only [sumN]
   by_cases hn:k=n
   · subst hn
     rw [sumN_congr fun i hi=>h i (by omega) (by omega)];omega
   · rw [ih (by omega) fun i hi hne=>h i (by omega) hne,h n (by omega) (by omega)];omega
noncomputable def cnt (n:Nat) (P:Nat→Prop):Nat:=(sumN n fun i=>if P i then 1 else 0).toNat
theorem cnt_eq (n:Nat) (P:Nat→Prop):(cnt n P:Int)=sumN n fun i=>if P i then 1 else 0:=by
 unfold cnt
 have:0≤sumN n fun i=>if P i then (1:Int) else 0:=by
   have h:=sumN_le (n:=n) (f:=fun _=>0) (g:=fun i=>if P i then (1:Int) else 0) (fun i _=>by split <;> omega)
   rwa [sumN_zero] at h
 omega
theorem cnt_zero (P:Nat→Prop):cnt 0 P=0:=rfl
theorem cnt_succ (n:Nat) (P:Nat→Prop):cnt (n+1) P=cnt n P+(if P n then 1 else 0):=by
 have h1:=cnt_eq (n+1) P
 have h2:=cnt_eq n P
 simp only [sumN] at h1
 split at h1 <;> split <;> first | omega | contradiction
theorem cnt_mono {n:Nat} {P Q:Nat→Prop} (h:∀ i,i<n→P i→Q i):cnt n P≤cnt n Q:=by
 have h1:=cnt_eq n P
 have h2:=cnt_eq n Q
 have:=sumN_le (n:=n) (f:=fun i=>if P i then (1:Int) else 0) (g:=fun i=>if Q i then (1:Int) else 0) (fun i hi=>by
   by_cases hp:P i
   · rw [if_pos hp,if_pos (h i hi hp)];exact Int.le_refl _
   · rw [if_neg hp];split <;> omega)
 omega
theorem cnt_congr {n:Nat} {P Q:Nat→Prop} (h:∀ i,i<n→(P i↔Q i)):cnt n P=cnt n Q :=
 Nat.le_antisymm (cnt_mono fun i hi=>(h i hi).1) (cnt_mono fun i hi=>(h i hi).2)
theorem cnt_le (n:Nat) (P:Nat→Prop):cnt n P≤n:=by
 induction n with
 | zero=>exact Nat.le_refl _
 | succ n ih=>rw [cnt_succ];split <;> omega
theorem cnt_add (n:Nat) (P Q:Nat→Prop):cnt n P=cnt n (fun i=>P i∧Q i)+cnt n (fun i=>P i∧¬ Q i):=by
 induction n with
 | zero=>rfl
 | succ n ih =>
   rw [cnt_succ,cnt_succ,cnt_succ,ih]
   by_cases hp:P n <;> by_cases hq:Q n <;> simp [hp,hq] <;> (try omega)
theorem cnt_one {n:Nat} {P:Nat→Prop} (k:Nat) (hk:k<n) (hp:P k):cnt n P=cnt n (fun i=>P i∧i≠k)+1:=by
 induction n with
 | zero=>omega
 | succ n ih =>
   rw [cnt_succ,cnt_succ]
   by_cases hn:k=n
   · subst hn
     rw [if_pos hp,if_neg (fun h=>h.2 rfl),cnt_congr (Q:=fun i=>P i∧i≠k) (fun i hi=>⟨fun h=>⟨h,by omega⟩,fun h=>h.1⟩)]
   · rw [ih (by omega)]
     by_cases hpn:P n
     · rw [if_pos hpn,if_pos ⟨hpn,fun e=>hn e.symm⟩];try omega
     · rw [if_neg hpn,if_neg (fun h=>hpn h.1)]
theorem cnt_pos {n:Nat} {P:Nat→Prop} (h:0<cnt n P):∃ i,i<n∧P i:=by
 induction n with
 | zero=>rw [cnt_zero] at h;omega
 | succ n ih =>
   rw [cnt_succ] at h
   by_cases hp:P n
   · exact ⟨n,by omega,hp⟩
   · rw [if_neg hp] at h
     obtain ⟨i,hi,hpi⟩:=ih (by omega)
     exact ⟨i,by omega,hpi⟩
theorem cnt_inj {n K:Nat} {P Q:Nat→Prop} (R:Nat→Nat→Prop) (h1:∀ i,i<n→P i→∃ k,k<K∧Q k∧R i k) (h2:∀ i j k,i<n→j<n→P i→P j→R i k→R j k→i=j):cnt n P≤cnt K Q:=by
 induction n generalizing Q with
 | zero=>rw [cnt_zero];omega
 | succ n ih =>
   rw [cnt_succ]
   by_cases hp:P n
   · rw [if_pos hp]
     obtain ⟨k,hk,hq,hr⟩:=h1 n (by omega) hp
     have:=ih (Q:=fun x=>Q x∧x≠k) (fun i hi hpi=>by
       obtain ⟨k',a,b,c⟩:=h1 i (by omega) hpi
       exact ⟨k',a,⟨b,fun e=>by subst e;have:=h2 i n k' (by omega) (by omega) hpi hp c hr;omega⟩,c⟩) (fun i j k hi hj=>h2 i j k (by omega) (by omega))
     rw [cnt_one k hk hq];omega
   · rw [if_neg hp]
     have:=ih (Q:=Q) (fun i hi=>h1 i (by omega)) (fun i j k hi hj=>h2 i j k (by omega) (by omega))
     omega
theorem greatest {α:Type} (P:α→Prop) (f:α→Nat) (B:Nat) (hB:∀ x,P x→f x≤B) (x0:α) (h0:P x0):∃ x,P x∧∀ y,P y→f y≤f x:=by
 have:∀ d,∀ x,P x→B - f x≤d→∃ x,P x∧∀ y,P y→f y≤f x:=by
   intro d
   induction d with
   | zero=>exact fun x hx hd=>⟨x,hx,fun y hy=>by have:=hB y hy;omega⟩
   | succ d ih =>
     intro x hx hd
     by_cases hm:∀ y,P y→f y≤f x
     · exact ⟨x,hx,hm⟩
     · obtain ⟨y,hy⟩:=Classical.not_forall.1 hm
       obtain ⟨hy1,hy2⟩:=Classical.not_imp.1 hy
       exact ih y hy1 (by have:=hB y hy1;omega)
 exact this _ x0 h0 (Nat.le_refl _)
structure Mt (n K:Nat) (m:Nat→Option Nat):Prop where
 lt:∀ i k,i<n→m i=some k→k<K
 inj:∀ i j k,i<n→j<n→m i=some k→m j=some k→i=j
def Used (n:Nat) (m:Nat→Option Nat) (k:Nat):Prop:=∃ i,i<n∧m i=some k
def gval (f:Nat→Nat→Int) (m:Nat→Option Nat) (i:Nat):Int:=match m i with | none=>0 | some k=>f i k
theorem gval_none {f:Nat→Nat→Int} {m:Nat→Option Nat} {i:Nat} (h:m i=none):gval f m i=0:=by unfold gval;rw [h]
theorem gval_some {f:Nat→Nat→Int} {m:Nat→Option Nat} {i k:Nat} (h:m i=some k):gval f m i=f i k:=by unfold gval;rw [h]
theorem sum_inj {n K:Nat} {m:Nat→Option Nat} (h:Mt n K m) (p:Nat→Int):sumN n (gval (fun _ k=>p k) m)+sumN K (fun k=>if Used n m k then 0 else p k)=sumN K p:=by
 induction n with
 | zero =>
   simp only [sumN]
   rw [sumN_congr (g:=p) (fun k hk=>by rw [if_neg];rintro ⟨i,hi,_⟩;omega)]
   omega
 | succ n ih =>
   have hn:Mt n K m:=⟨fun i k hi=>h.lt i k (by omega),fun i j k hi hj=>h.inj i j k (by omega) (by omega)⟩
   have:=ih hn
   simp only [sumN]
   cases hm:m n with
   | none =>
     have e1:=sumN_congr (n:=K) (f:=fun k=>if Used (n+1) m k then 0 else p k) (g:=fun k=>if Used n m k then 0 else p k) (fun k hk=>by
       have:Used (n+1) m k↔Used n m k:=⟨fun ⟨i,hi,e⟩ => ⟨i,by
         by_cases hin:i=n
         · subst hin;rw [hm] at e;cases e
         · omega,e⟩,fun ⟨i,hi,e⟩ => ⟨i,by omega,e⟩⟩
       by_cases hu:Used n m k
       · rw [if_pos hu,if_pos (this.2 hu)]
       · rw [if_neg hu,if_neg (fun q=>hu (this.1 q))])
     rw [gval_none hm,e1]
     omega
   | some k0 =>
     have hk0:=h.lt n k0 (by omega) hm
     have hnu:¬ Used n m k0:=fun ⟨i,hi,e⟩ => by have:=h.inj i n k0 (by omega) (by omega) e hm;omega
     rw [gval_some hm,sumN_upd (f:=fun k=>if Used (n+1) m k then 0 else p k) (g:=fun k=>if Used n m k then 0 else p k) k0 hk0 (fun k hk hne=>by
       have:Used (n+1) m k↔Used n m k:=⟨fun ⟨i,hi,e⟩ => ⟨i,by
         by_cases hin:i=n
         · subst hin;rw [hm] at e;cases e;exact absurd rfl hne
         · omega,e⟩,fun ⟨i,hi,e⟩ => ⟨i,by omega,e⟩⟩
       by_cases hu:Used n m k
       · rw [if_pos hu,if_pos (this.2 hu)]
       · rw [if_neg hu,if_neg (fun q=>hu (this.1 q))])]
     rw [if_pos (show Used (n+1) m k0 from ⟨n,by omega,hm⟩),if_neg hnu]
     omega
structure Dual (n K:Nat) (g:Nat→Nat→Int) (u p:Nat→Int):Prop where
 hu:∀ i,i<n→0≤u i
 hp:∀ k,k<K→0≤p k
 c:∀ i k,i<n→k<K→g i k≤u i+p k
theorem Dual.le {n K:Nat} {g:Nat→Nat→Int} {u p:Nat→Int} (h:Dual n K g u p) {m:Nat→Option Nat} (hm:Mt n K m):sumN n (gval g m)≤sumN n u+sumN K p:=by
 have h1:=sum_inj hm p
 have h2:0≤sumN K (fun k=>if Used n m k then 0 else p k):=by
   have:=sumN_le (n:=K) (f:=fun _=>0) (g:=fun k=>if Used n m k then 0 else p k) (fun k hk=>by split;omega;exact h.hp k hk)
   rwa [sumN_zero] at this
 have h3:sumN n (gval g m)≤sumN n (fun i=>u i+gval (fun _ k=>p k) m i):=sumN_le fun i hi=>by
   cases e:m i with
   | none=>rw [gval_none e,gval_none e];have:=h.hu i hi;omega
   | some k=>rw [gval_some e,gval_some e];exact h.c i k hi (hm.lt i k hi e)
 rw [sumN_add] at h3
 omega
theorem Dual.tight {n K:Nat} {g:Nat→Nat→Int} {u p:Nat→Int} (h:Dual n K g u p) {m:Nat→Option Nat} (hm:Mt n K m) (he:sumN n u+sumN K p≤sumN n (gval g m)) :
   (∀ i k,i<n→m i=some k→g i k=u i+p k)∧(∀ i,i<n→m i=none→u i=0)∧(∀ k,k<K→¬ Used n m k→p k=0):=by
 have h1:=sum_inj hm p
 have h2:=sumN_le (n:=K) (f:=fun _=>0) (g:=fun k=>if Used n m k then 0 else p k) (fun k hk=>by split;omega;exact h.hp k hk)
 rw [sumN_zero] at h2
 have h3:∀ i,i<n→gval g m i≤u i+gval (fun _ k=>p k) m i:=fun i hi=>by
   cases e:m i with
   | none=>rw [gval_none e,gval_none e];have:=h.hu i hi;omega
   | some k=>rw [gval_some e,gval_some e];exact h.c i k hi (hm.lt i k hi e)
 have h4:=sumN_le h3
 rw [sumN_add] at h4
 have h5:=sumN_eq h3 (by rw [sumN_add];omega)
 refine ⟨fun i k hi e => ?_,fun i hi e => ?_,fun k hk hu => ?_⟩
 · have:=h5 i hi;rwa [gval_some e,gval_some e] at this
 · have:=h5 i hi;rw [gval_none e,gval_none e] at this;omega
 · have h6:=sumN_eq (n:=K) (f:=fun _=>0) (g:=fun k=>if Used n m k then 0 else p k) (fun k hk=>by split;omega;exact h.hp k hk) (by rw [sumN_zero];omega) k hk
   try dsimp only at h6
   rw [if_neg hu] at h6
   exact h6.symm
theorem Dual.eq {n K:Nat} {g:Nat→Nat→Int} {u p:Nat→Int} {m:Nat→Option Nat} (hm:Mt n K m) (h1:∀ i k,i<n→m i=some k→g i k=u i+p k) (h2:∀ i,i<n→m i=none→u i=0) (h3:∀ k,k<K→¬ Used n m k→p k=0):sumN n (gval g m)=sumN n u+sumN K p:=by
 have h4:=sum_inj hm p
 have h5:sumN K (fun k=>if Used n m k then 0 else p k)=0:=by
   refine (sumN_congr (g:=fun _=>0) fun k hk => ?_).trans (sumN_zero K)
   by_cases hu:Used n m k
   · rw [if_pos hu]
   · rw [if_neg hu];exact h3 k hk hu
 have h6:sumN n (gval g m)=sumN n (fun i=>u i+gval (fun _ k=>p k) m i):=sumN_congr fun i hi=>by
   cases e:m i with
   | none=>rw [gval_none e,gval_none e,h2 i hi e];rfl
   | some k=>rw [gval_some e,gval_some e,h1 i k hi e]
 rw [sumN_add] at h6
 omega
section
variable (n K:Nat) (E:Nat→Nat→Prop) (m:Nat→Option Nat) (i0:Nat)
inductive Pth:List Nat→Prop
 | base:Pth [i0]
 | step (i:Nat) (l:List Nat) (k i':Nat):Pth (i :: l)→E i k→k<K→i'<n→m i'=some k→i' ∉ i :: l→Pth (i' :: i :: l)
end
theorem Pth.suffix {n K:Nat} {E:Nat→Nat→Prop} {m:Nat→Option Nat} {i0:Nat} {l:List Nat} (h:Pth n K E m i0 l):∀ x ∈ l,∃ l',Pth n K E m i0 (x :: l'):=by
 induction h with
 | base=>intro x hx;simp at hx;subst hx;exact ⟨[],.base⟩
 | step i l k i' h1 h2 h3 h4 h5 h6 ih =>
   intro x hx
   rcases List.mem_cons.1 hx with rfl | hx
   · exact ⟨i :: l,.step i l k x h1 h2 h3 h4 h5 h6⟩
   · exact ih x hx
def Rch (n K:Nat) (E:Nat→Nat→Prop) (m:Nat→Option Nat) (i0 i:Nat):Prop:=∃ l,Pth n K E m i0 (i :: l)
theorem Rch.base {n K:Nat} {E:Nat→Nat→Prop} {m:Nat→Option Nat} {i0:Nat}:Rch n K E m i0 i0:=⟨[],.base⟩
theorem Rch.step {n K:Nat} {E:Nat→Nat→Prop} {m:Nat→Option Nat} {i0 i k i':Nat} (h:Rch n K E m i0 i) (h1:E i k) (h2:k<K) (h3:i'<n) (h4:m i'=some k):Rch n K E m i0 i':=by
 obtain ⟨l,h⟩:=h
 by_cases hm:i' ∈ i :: l
 · exact h.suffix i' hm
 · exact ⟨i :: l,.step i l k i' h h1 h2 h3 h4 hm⟩
def In (n:Nat) (E:Nat→Nat→Prop) (m:Nat→Option Nat):Prop:=∀ i k,i<n→m i=some k→E i k
theorem Pth.move {n K:Nat} {E:Nat→Nat→Prop} {m:Nat→Option Nat} {i0:Nat} (hm:Mt n K m) (hE:In n E m) (h0:i0<n) (hn:m i0=none) {l:List Nat} (h:Pth n K E m i0 l) :
   ∀ a l',l=a :: l'→∃ m',Mt n K m'∧In n E m'∧m' a=none∧(∀ i,i ∉ l→m' i=m i)∧(∀ i,i ∈ l'→m' i≠none)∧∀ k,Used n m' k↔Used n m k:=by
 induction h with
 | base =>
   intro a l' e
   cases e
   exact ⟨m,hm,hE,hn,fun _ _=>rfl,(fun i hi=>by cases hi),fun _=>Iff.rfl⟩
 | step i l k i' h1 h2 h3 h4 h5 h6 ih =>
   intro a l' e
   cases e
   obtain ⟨m2,a1,a2,a3,a4,a5,a6⟩:=ih i l rfl
   have hi:i<n:=by cases h1 with
     | base=>exact h0
     | step _ _ _ _ _ _ _ q _ _=>exact q
   have hii:i'≠i:=fun e=>h6 (by rw [e];exact List.mem_cons_self)
   have h5':m2 i'=some k:=by rw [a4 i' h6];exact h5
   refine ⟨fun x=>if x=i' then none else if x=i then some k else m2 x,⟨fun x y hx hxy => ?_,fun x y z hx hy hxz hyz => ?_⟩,fun x y hx hxy => ?_,by simp,fun x hx => ?_,fun x hx => ?_,fun z => ?_⟩
   · try dsimp only at hxy
     split at hxy
     · cases hxy
     · split at hxy
       · cases hxy;exact h3
       · exact a1.lt x y hx hxy
   · try dsimp only at hxz hyz
     split at hxz
     · cases hxz
     · rename_i nx
       split at hyz
       · cases hyz
       · rename_i ny
         split at hxz <;> split at hyz
         · rename_i e1 e2;rw [e1,e2]
         · rename_i e1 e2
           cases hxz
           exact absurd (a1.inj y i' k hy h4 hyz h5') ny
         · rename_i e1 e2
           cases hyz
           exact absurd (a1.inj x i' k hx h4 hxz h5') nx
         · exact a1.inj x y z hx hy hxz hyz
   · try dsimp only at hxy
     split at hxy
     · cases hxy
     · split at hxy
       · rename_i e;cases hxy;rw [e];exact h2
       · exact a2 x y hx hxy
   · try dsimp only
     rw [if_neg (fun e=>hx (by rw [e];exact List.mem_cons_self)),if_neg (fun e=>hx (by rw [e];exact List.mem_cons_of_mem _ List.mem_cons_self))]
     exact a4 x (fun h=>hx (List.mem_cons_of_mem _ h))
   · try dsimp only
     have hxi:x≠i':=fun e=>h6 (by rw [← e];exact hx)
     rw [if_neg hxi]
     split
     · simp
     · rename_i hne
       rcases List.mem_cons.1 hx with e | hx
       · exact absurd e hne
       · exact a5 x hx
   · rw [← a6 z]
     constructor
     · rintro ⟨x,hx,e⟩
       try dsimp only at e
       split at e
       · cases e
       · split at e
         · cases e;exact ⟨i',h4,h5'⟩
         · exact ⟨x,hx,e⟩
     · rintro ⟨x,hx,e⟩
       by_cases hxi:x=i'
       · subst hxi
         rw [h5'] at e;cases e
         exact ⟨i,hi,by simp [Ne.symm hii]⟩
       · by_cases hx2:x=i
         · subst hx2;rw [a3] at e;cases e
         · exact ⟨x,hx,by simp [hxi,hx2,e]⟩
theorem Rch.move {n K:Nat} {E:Nat→Nat→Prop} {m:Nat→Option Nat} {i0 a:Nat} (hm:Mt n K m) (hE:In n E m) (h0:i0<n) (hn:m i0=none) (h:Rch n K E m i0 a) :
   ∃ m',Mt n K m'∧In n E m'∧m' a=none∧(a≠i0→m' i0≠none)∧(∀ i,i≠a→i≠i0→(m' i=none↔m i=none))∧∀ k,Used n m' k↔Used n m k:=by
 obtain ⟨l,hp⟩:=h
 obtain ⟨m',a1,a2,a3,a4,a5,a6⟩:=hp.move hm hE h0 hn a l rfl
 have hlast:∀ (l:List Nat),Pth n K E m i0 l→i0 ∈ l∧∀ x ∈ l,x≠i0→m x≠none:=by
   intro l h
   induction h with
   | base=>exact ⟨by simp,fun x hx hne=>by simp at hx;exact absurd hx hne⟩
   | step i l k i' _ _ _ _ h5 _ ih =>
     refine ⟨List.mem_cons_of_mem _ ih.1,fun x hx hne => ?_⟩
     rcases List.mem_cons.1 hx with rfl | hx
     · rw [h5];simp
     · exact ih.2 x hx hne
 obtain ⟨q1,q2⟩:=hlast _ hp
 refine ⟨m',a1,a2,a3,fun hne => ?_,fun i h1 h2 => ?_,a6⟩
 · rcases List.mem_cons.1 q1 with e | e
   · exact absurd e.symm hne
   · exact a5 i0 e
 · by_cases hi:i ∈ a :: l
   · constructor
     · intro e
       rcases List.mem_cons.1 hi with e2 | e2
       · exact absurd e2 h1
       · exact absurd e (a5 i e2)
     · intro e;exact absurd e (q2 i hi h2)
   · rw [a4 i hi]
theorem Mt.give {n K:Nat} {E:Nat→Nat→Prop} {m:Nat→Option Nat} (hm:Mt n K m) (hE:In n E m) (a k:Nat) (hk:k<K) (hu:¬ Used n m k) (he:E a k):Mt n K (fun x=>if x=a then some k else m x)∧In n E (fun x=>if x=a then some k else m x):=by
 refine ⟨⟨fun x y hx e => ?_,fun x y z hx hy e1 e2 => ?_⟩,fun x y hx e => ?_⟩
 · try dsimp only at e
   split at e
   · cases e;exact hk
   · exact hm.lt x y hx e
 · try dsimp only at e1 e2
   split at e1 <;> split at e2
   · rename_i h1 h2;rw [h1,h2]
   · cases e1;exact absurd ⟨y,hy,e2⟩ hu
   · cases e2;exact absurd ⟨x,hx,e1⟩ hu
   · exact hm.inj x y z hx hy e1 e2
 · try dsimp only at e
   split at e
   · rename_i h1;cases e;rw [h1];exact he
   · exact hE x y hx e
noncomputable def inv (n:Nat) (m:Nat→Option Nat) (k:Nat):Option Nat:=if h:∃ i,i<n∧m i=some k then some (Classical.choose h) else none
theorem inv_some {n K:Nat} {m:Nat→Option Nat} (hm:Mt n K m) {i k:Nat}:inv n m k=some i↔i<n∧m i=some k:=by
 unfold inv
 split
 · rename_i h
   have hs:=Classical.choose_spec h
   constructor
   · intro e;cases e;exact hs
   · intro e;rw [hm.inj _ i k hs.1 e.1 hs.2 e.2]
 · rename_i h
   exact ⟨(fun e=>by cases e),fun e=>absurd ⟨i,e⟩ h⟩
theorem inv_none {n:Nat} {m:Nat→Option Nat} {k:Nat}:inv n m k=none↔¬ Used n m k:=by
 unfold inv
 split
 · rename_i h;exact ⟨(fun e=>by cases e),fun e=>absurd h e⟩
 · rename_i h;exact ⟨fun _=>h,fun _=>rfl⟩
theorem inv_mt {n K:Nat} {m:Nat→Option Nat} (hm:Mt n K m):Mt K n (inv n m) :=
 ⟨fun k i _ e=>((inv_some hm).1 e).1,fun k k' i _ _ e1 e2=>by
   have:=((inv_some hm).1 e1).2.symm.trans ((inv_some hm).1 e2).2
   cases this;rfl⟩
theorem inv_used {n K:Nat} {m:Nat→Option Nat} (hm:Mt n K m) (i:Nat) (hi:i<n):Used K (inv n m) i↔m i≠none:=by
 constructor
 · rintro ⟨k,_,e⟩
   rw [((inv_some hm).1 e).2];simp
 · intro h
   obtain ⟨k,e⟩:=Option.ne_none_iff_exists'.1 h
   exact ⟨k,hm.lt i k hi e,(inv_some hm).2 ⟨hi,e⟩⟩
theorem inv_in {n K:Nat} {E:Nat→Nat→Prop} {m:Nat→Option Nat} (hm:Mt n K m) (hE:In n E m):In K (fun k i=>E i k) (inv n m):=fun k i _ e=>hE i k ((inv_some hm).1 e).1 ((inv_some hm).1 e).2
theorem hall {n K:Nat} {E:Nat→Nat→Prop} {T:Nat→Prop} (h:∀ S:Nat→Prop,cnt n (fun i=>T i∧∀ k,k<K→E i k→S k)≤cnt K S) :
   ∃ m,Mt n K m∧In n E m∧∀ i,i<n→T i→m i≠none:=by
 obtain ⟨m,⟨hm,hE⟩,hmax⟩:=greatest (fun m=>Mt n K m∧In n E m) (fun m=>cnt n (fun i=>T i∧m i≠none)) n (fun _ _=>cnt_le _ _) (fun _=>none) ⟨⟨(fun _ _ _ e=>by cases e),(fun _ _ _ _ _ e=>by cases e)⟩,(fun _ _ _ e=>by cases e)⟩
 refine ⟨m,hm,hE,fun i0 h0 ht0 hn => ?_⟩
 -- all that is reached is in T, and all that it may have is had by such
 have more:∀ m',Mt n K m'→In n E m'→m' i0≠none→(∀ i,i<n→T i→i≠i0→m i≠none→m' i≠none)→False:=by
   intro m' k1 k2 k3 k4
   have:=hmax m' ⟨k1,k2⟩
   have e1:=cnt_one (n:=n) (P:=fun i=>T i∧m' i≠none) i0 h0 ⟨ht0,k3⟩
   have e2:=cnt_mono (n:=n) (P:=fun i=>T i∧m i≠none) (Q:=fun i=>(T i∧m' i≠none)∧i≠i0) (fun i hi hp=>by
     have hne:i≠i0:=fun e=>hp.2 (by rw [e];exact hn)
     exact ⟨⟨hp.1,k4 i hi hp.1 hne hp.2⟩,hne⟩)
   omega
 have rT:∀ i,Rch n K E m i0 i→T i:=by
   intro i hr
   apply Classical.byContradiction
   intro hT
   have hne:i≠i0:=fun e=>hT (by rw [e];exact ht0)
   obtain ⟨m',k1,k2,k3,k4,k5,_⟩:=hr.move hm hE h0 hn
   exact more m' k1 k2 (k4 hne) (fun x hx hTx hx0 hmx e=>by
     have hxi:x≠i:=fun e=>hT (by rw [← e];exact hTx)
     exact hmx ((k5 x hxi hx0).1 e))
 have rU:∀ i k,Rch n K E m i0 i→E i k→k<K→Used n m k:=by
   intro i k hr he hk
   apply Classical.byContradiction
   intro hu
   obtain ⟨m',k1,k2,k3,k4,k5,k6⟩:=hr.move hm hE h0 hn
   obtain ⟨q1,q2⟩:=k1.give k2 i k hk (fun h=>hu ((k6 k).1 h)) he
   refine more _ q1 q2 ?_ (fun x hx hTx hx0 hmx => ?_)
   · try dsimp only
     split
     · simp
     · rename_i hne;exact k4 (fun e=>hne e.symm)
   · try dsimp only
     split
     · simp
     · rename_i hne
       exact fun e=>hmx ((k5 x hne hx0).1 e)
 have hS:=h (fun k => ∃ i,Rch n K E m i0 i∧E i k)
 have e1:=cnt_mono (n:=n) (P:=Rch n K E m i0) (Q:=fun i=>T i∧∀ k,k<K→E i k→∃ i,Rch n K E m i0 i∧E i k) (fun i hi hr=>⟨rT i hr,fun k _ he=>⟨i,hr,he⟩⟩)
 have e2:=cnt_one (n:=n) (P:=Rch n K E m i0) i0 h0 Rch.base
 have e3:=cnt_inj (n:=K) (K:=n) (P:=fun k => ∃ i,Rch n K E m i0 i∧E i k) (Q:=fun i=>Rch n K E m i0 i∧i≠i0) (fun k i=>m i=some k) (fun k hk ⟨i,hr,he⟩ => by
   obtain ⟨i',hi',e⟩:=rU i k hr he hk
   exact ⟨i',hi',⟨hr.step he hk hi' e,fun e2=>by rw [e2,hn] at e;cases e⟩,e⟩) (fun k k' i _ _ _ _ a b=>by rw [a] at b;cases b;rfl)
 omega
theorem hall_back {n K:Nat} {E:Nat→Nat→Prop} {T:Nat→Prop} {m:Nat→Option Nat} (hm:Mt n K m) (hE:∀ i k,i<n→T i→m i=some k→E i k) (hT:∀ i,i<n→T i→m i≠none) (S:Nat→Prop):cnt n (fun i=>T i∧∀ k,k<K→E i k→S k)≤cnt K S :=
 cnt_inj (fun i k=>m i=some k) (fun i hi ⟨h1,h2⟩ => by
   obtain ⟨k,e⟩:=Option.ne_none_iff_exists'.1 (hT i hi h1)
   exact ⟨k,hm.lt i k hi e,h2 k (hm.lt i k hi e) (hE i k hi h1 e),e⟩) (fun i j k hi hj _ _ a b=>hm.inj i j k hi hj a b)
end JM
end
section
namespace JM
open Classical
set_option linter.unusedVariables false
def mx:Nat→(Nat→Int)→Int
 | 0,_=>0
 | k+1,f=>max (mx k f) (f k)
theorem mx_nonneg (K:Nat) (f:Nat→Int):0≤mx K f:=by
 induction K with
 | zero=>exact Int.le_refl _
 | succ k ih=>simp only [mx];omega
theorem mx_ge {K:Nat} {f:Nat→Int} (k:Nat) (hk:k<K):f k≤mx K f:=by
 induction K with
 | zero=>omega
 | succ n ih =>
   simp only [mx]
   by_cases h:k=n
   · subst h;omega
   · have:=ih (by omega);omega
theorem mx_at (K:Nat) (f:Nat→Int):mx K f=0∨∃ k,k<K∧mx K f=f k:=by
 induction K with
 | zero=>exact .inl rfl
 | succ n ih =>
   simp only [mx]
   by_cases h:mx n f≤f n
   · exact .inr ⟨n,by omega,by omega⟩
   · rcases ih with h1 | ⟨k,h1,h2⟩
     · exact .inl (by omega)
     · exact .inr ⟨k,by omega,by omega⟩
theorem mx_le {K:Nat} {f:Nat→Int} {b:Int} (hb:0≤b) (h:∀ k,k<K→f k≤b):mx K f≤b:=by
 rcases mx_at K f with e | ⟨k,hk,e⟩
 · omega
 · rw [e];exact h k hk
theorem mx_eq {K:Nat} {f:Nat→Int} {b:Int} (hb:0≤b) (h:∀ k,k<K→f k≤b) (ha:b=0∨∃ k,k<K∧f k=b):mx K f=b:=by
 have h1:=mx_le hb h
 have h2:=mx_nonneg K f
 rcases ha with e | ⟨k,hk,e⟩
 · omega
 · have:=mx_ge (f:=f) k hk;omega
def ut (K:Nat) (g:Nat→Nat→Int) (p:Nat→Int) (i:Nat):Int:=mx K fun k=>g i k - p k
def dm (K:Nat) (g:Nat→Nat→Int) (p:Nat→Int) (i k:Nat):Prop:=k<K∧g i k - p k=ut K g p i
def mst (K:Nat) (g:Nat→Nat→Int) (p:Nat→Int) (i:Nat):Prop:=0<ut K g p i
def wt (K:Nat) (g:Nat→Nat→Int) (p:Nat→Int) (S:Nat→Prop) (i:Nat):Prop:=mst K g p i∧∀ k,k<K→dm K g p i k→S k
def NoOver (n K:Nat) (g:Nat→Nat→Int) (p:Nat→Int):Prop:=∀ S:Nat→Prop,cnt n (wt K g p S)≤cnt K S
structure Leastp (n K:Nat) (g:Nat→Nat→Int) (p:Nat→Int):Prop where
 pos:∀ k,k<K→0≤p k
 no:NoOver n K g p
 le:∀ q:Nat→Int,(∀ k,k<K→0≤q k)→NoOver n K g q→∀ k,k<K→p k≤q k
structure Few (n K:Nat) (g:Nat→Nat→Int) (p:Nat→Int) (S:Nat→Prop):Prop where
 over:cnt K S<cnt n (wt K g p S)
 few:∀ S':Nat→Prop,cnt K S'<cnt K S→cnt n (wt K g p S')≤cnt K S'
theorem Few.below {n K:Nat} {g:Nat→Nat→Int} {p q:Nat→Int} {S:Nat→Prop} {b:Int} (h:Few n K g p S) (hb:∀ i,i<n→wt K g p S i→b≤ut K g p i∧∀ k,k<K→¬ S k→b≤ut K g p i - (g i k - p k)) (hq:NoOver n K g q) (hpq:∀ k,k<K→p k≤q k) :
   ∀ k,k<K→S k→p k+b≤q k:=by
 intro k0 hk0 hs0
 apply Classical.byContradiction
 intro hlt
 have e1:=cnt_add K S (fun k=>q k<p k+b)
 have hpos:0<cnt K (fun k=>S k∧q k<p k+b):=by
   rw [cnt_one k0 hk0 ⟨hs0,by omega⟩];omega
 have e2:=h.few (fun k=>S k∧¬ q k<p k+b) (by omega)
 have e3:=cnt_add n (wt K g p S) (fun i => ∃ k,k<K∧(S k∧q k<p k+b)∧dm K g p i k)
 have e4:=cnt_mono (n:=n) (P:=fun i=>wt K g p S i∧¬ ∃ k,k<K∧(S k∧q k<p k+b)∧dm K g p i k) (Q:=wt K g p (fun k=>S k∧¬ q k<p k+b)) (fun i hi ⟨⟨h1,h2⟩,h3⟩ => ⟨h1,fun k hk hd=>⟨h2 k hk hd,fun hl=>h3 ⟨k,hk,⟨h2 k hk hd,hl⟩,hd⟩⟩⟩)
 have e5:=cnt_mono (n:=n) (P:=fun i=>wt K g p S i∧∃ k,k<K∧(S k∧q k<p k+b)∧dm K g p i k) (Q:=wt K g q (fun k=>S k∧q k<p k+b)) (fun i hi ⟨hw,k,hk,⟨hs,hl⟩,hd⟩ => by
   obtain ⟨b1,b2⟩:=hb i hi hw
   have hu:g i k - q k≤ut K g q i:=mx_ge (f:=fun k=>g i k - q k) k hk
   have hd2:=hd.2
   refine ⟨by unfold mst;omega,fun k' hk' hd' => ?_⟩
   have hd3:=hd'.2
   have hpk:=hpq k' hk'
   apply Classical.byContradiction
   intro hn
   by_cases hs':S k'
   · have:¬ q k'<p k'+b:=fun hl' => hn ⟨hs',hl'⟩
     have hu2:g i k' - p k'≤ut K g p i:=mx_ge (f:=fun k=>g i k - p k) k' hk'
     omega
   · have:=b2 k' hk' hs'
     omega)
 have e6:=hq (fun k=>S k∧q k<p k+b)
 have:=h.over
 omega
theorem Few.wanted {n K:Nat} {g:Nat→Nat→Int} {p:Nat→Int} {S:Nat→Prop} (h:Few n K g p S) (k:Nat) (hk:k<K) (hs:S k):∃ i,i<n∧wt K g p S i∧dm K g p i k:=by
 apply Classical.byContradiction
 intro hno
 have e1:=cnt_one (P:=S) k hk hs
 have e2:=h.few (fun x=>S x∧x≠k) (by omega)
 have e3:=cnt_mono (n:=n) (P:=wt K g p S) (Q:=wt K g p (fun x=>S x∧x≠k)) (fun i hi hw=>⟨hw.1,fun k' hk' hd=>⟨hw.2 k' hk' hd,fun e=>hno ⟨i,hi,hw,by rw [← e];exact hd⟩⟩⟩)
 have:=h.over
 omega
theorem Few.some {n K:Nat} {g:Nat→Nat→Int} {p:Nat→Int} {S:Nat→Prop} (h:Few n K g p S):∃ i,i<n∧wt K g p S i:=cnt_pos (Nat.lt_of_le_of_lt (Nat.zero_le _) h.over)
theorem dm_some {K:Nat} {g:Nat→Nat→Int} {p:Nat→Int} {i:Nat} (h:mst K g p i):∃ k,dm K g p i k:=by
 rcases mx_at K (fun k=>g i k - p k) with e | ⟨k,hk,e⟩
 · have h1:0<mx K (fun k=>g i k - p k):=h
   omega
 · exact ⟨k,hk,e.symm⟩
theorem slack {K:Nat} {g:Nat→Nat→Int} {p:Nat→Int} {S:Nat→Prop} {i k:Nat} (h:wt K g p S i) (hk:k<K) (hs:¬ S k):1≤ut K g p i - (g i k - p k):=by
 have h1:g i k - p k≤ut K g p i:=mx_ge (f:=fun k=>g i k - p k) k hk
 have h2:g i k - p k≠ut K g p i:=fun e=>hs (h.2 k hk ⟨hk,e⟩)
 omega
theorem lower {n K:Nat} {g:Nat→Nat→Int} {p:Nat→Int} {m:Nat→Option Nat} {R:Nat→Prop} {j:Nat} (hp:Leastp n K g p) (hm:Mt n K m) (hT:∀ i,i<n→mst K g p i→m i≠none) (hE:∀ i k,i<n→m i=some k→dm K g p i k)
   (hR:∀ k,k<K→R k→0<p k) (hj:j<K) (hRj:R j) (hcl:∀ i k,i<n→R k→dm K g p i k→∃ k',m i=some k'∧R k'):False:=by
 have key:∀ i,i<n→(mst K g (fun k=>if R k then p k - 1 else p k) i→m i≠none)∧∀ k,m i=some k→dm K g (fun k=>if R k then p k - 1 else p k) i k:=by
   intro i hi
   by_cases hA:∃ k,R k∧dm K g p i k
   · obtain ⟨k,hk,hd⟩:=hA
     obtain ⟨k',e,hk'⟩:=hcl i k hi hk hd
     have hu:ut K g (fun k=>if R k then p k - 1 else p k) i=ut K g p i+1:=mx_eq (by have:=mx_nonneg K (fun k=>g i k - p k);unfold ut;omega) (fun x hx=>by
       have:g i x - p x≤ut K g p i:=mx_ge (f:=fun k=>g i k - p k) x hx
       dsimp only
       split <;> omega) (.inr ⟨k,hd.1,by dsimp only;rw [if_pos hk];have:=hd.2;omega⟩)
     have hd':=hE i k' hi e
     refine ⟨fun _=>by rw [e];simp,fun x ex => ?_⟩
     rw [e] at ex;cases ex
     exact ⟨hd'.1,by rw [hu];dsimp only;rw [if_pos hk'];have:=hd'.2;omega⟩
   · have hnR:∀ x,dm K g p i x→¬ R x:=fun x hd hr=>hA ⟨x,hr,hd⟩
     have hu:ut K g (fun k=>if R k then p k - 1 else p k) i=ut K g p i:=mx_eq (mx_nonneg _ _) (fun x hx=>by
       have h1:g i x - p x≤ut K g p i:=mx_ge (f:=fun k=>g i k - p k) x hx
       dsimp only
       split
       · rename_i hr
         have h2:g i x - p x≠ut K g p i:=fun e=>hnR x ⟨hx,e⟩ hr
         omega
       · exact h1) (by
       rcases mx_at K (fun k=>g i k - p k) with e | ⟨k,hk,e⟩
       · exact .inl e
       · exact .inr ⟨k,hk,by dsimp only;rw [if_neg (hnR k ⟨hk,e.symm⟩)];exact e.symm⟩)
     refine ⟨fun hmst=>hT i hi (by unfold mst at hmst ⊢;rwa [hu] at hmst),fun x ex => ?_⟩
     have hd:=hE i x hi ex
     exact ⟨hd.1,by rw [hu];dsimp only;rw [if_neg (hnR x hd)];exact hd.2⟩
 have h1:NoOver n K g (fun k=>if R k then p k - 1 else p k):=fun S=>hall_back (E:=dm K g (fun k=>if R k then p k - 1 else p k)) (T:=mst K g (fun k=>if R k then p k - 1 else p k)) hm (fun i k hi _ e=>(key i hi).2 k e) (fun i hi ht=>(key i hi).1 ht) S
 have h2:=hp.le _ (fun k hk=>by
   by_cases hr:R k
   · rw [if_pos hr];have:=hR k hk hr;omega
   · rw [if_neg hr];exact hp.pos k hk) h1 j hj
 rw [if_pos hRj] at h2
 omega
theorem sold {n K:Nat} {g:Nat→Nat→Int} {p:Nat→Int} (hp:Leastp n K g p):∃ m,Mt n K m∧In n (dm K g p) m∧(∀ i,i<n→mst K g p i→m i≠none)∧∀ k,k<K→0<p k→Used n m k:=by
 obtain ⟨m0,a1,a2,a3⟩:=hall (n:=n) (K:=K) (E:=dm K g p) (T:=mst K g p) hp.no
 obtain ⟨m,⟨hm,hE,hT⟩,hmax⟩:=greatest (fun m=>Mt n K m∧In n (dm K g p) m∧∀ i,i<n→mst K g p i→m i≠none) (fun m=>cnt K (fun k=>0<p k∧Used n m k)) K (fun _ _=>cnt_le _ _) m0 ⟨a1,a2,a3⟩
 refine ⟨m,hm,hE,hT,fun j hj hpj=>Classical.byContradiction fun hu => ?_⟩
 have hv:=inv_mt hm
 have hvE:=inv_in hm hE
 have hvj:inv n m j=none:=inv_none.2 hu
 have more:∀ m2,Mt K n m2→In K (fun k i=>dm K g p i k) m2→(∀ i,i<n→m i≠none→Used K m2 i)→m2 j≠none→(∀ k,k<K→0<p k→k≠j→inv n m k≠none→m2 k≠none)→False:=by
   intro m2 k1 k2 k3 k4 k5
   have q1:=inv_mt k1
   have:=hmax (inv K m2) ⟨q1,inv_in k1 k2,fun i hi ht e=>(inv_none.1 e) (k3 i hi (hT i hi ht))⟩
   have e1:=cnt_one (n:=K) (P:=fun k=>0<p k∧Used n (inv K m2) k) j hj ⟨hpj,(inv_used k1 j hj).2 k4⟩
   have e2:=cnt_mono (n:=K) (P:=fun k=>0<p k∧Used n m k) (Q:=fun k=>(0<p k∧Used n (inv K m2) k)∧k≠j) (fun k hk hq=>by
     have hne:k≠j:=fun e=>hu (by rw [← e];exact hq.2)
     exact ⟨⟨hq.1,(inv_used k1 k hk).2 (k5 k hk hq.1 hne (fun e=>inv_none.1 e hq.2))⟩,hne⟩)
   omega
 have r1:∀ k,Rch K n (fun k i=>dm K g p i k) (inv n m) j k→0<p k:=by
   intro k hr
   apply Classical.byContradiction
   intro hpk
   have hne:k≠j:=fun e=>hpk (by rw [e];exact hpj)
   obtain ⟨m2,k1,k2,k3,k4,k5,k6⟩:=hr.move hv hvE hj hvj
   exact more m2 k1 k2 (fun i hi h=>(k6 i).2 ((inv_used hm i hi).2 h)) (k4 hne) (fun x hx hpx hxj h e=>by
     have hxk:x≠k:=fun e=>hpk (by rw [← e];exact hpx)
     exact h ((k5 x hxk hxj).1 e))
 have r2:∀ i k,i<n→Rch K n (fun k i=>dm K g p i k) (inv n m) j k→dm K g p i k→m i≠none:=by
   intro i k hi hr hd hn
   obtain ⟨m2,k1,k2,k3,k4,k5,k6⟩:=hr.move hv hvE hj hvj
   have hui:¬ Used K m2 i:=fun h=>((inv_used hm i hi).1 ((k6 i).1 h)) hn
   obtain ⟨q1,q2⟩:=k1.give k2 k i hi hui hd
   refine more _ q1 q2 (fun i' hi' h => ?_) ?_ (fun x hx hpx hxj h => ?_)
   · obtain ⟨x,hx,e⟩:=(k6 i').2 ((inv_used hm i' hi').2 h)
     have hxk:x≠k:=fun e2=>by rw [e2,k3] at e;cases e
     exact ⟨x,hx,by (try dsimp only);rw [if_neg hxk];exact e⟩
   · try dsimp only
     by_cases e:j=k
     · rw [if_pos e];simp
     · rw [if_neg e];exact k4 (fun e2=>e e2.symm)
   · try dsimp only
     by_cases e:x=k
     · rw [if_pos e];simp
     · rw [if_neg e];exact fun e2=>h ((k5 x e hxj).1 e2)
 exact lower (R:=Rch K n (fun k i=>dm K g p i k) (inv n m) j) hp hm hT hE (fun k _ hr=>r1 k hr) hj Rch.base (fun i k hi hr hd=>by
   obtain ⟨k',e⟩:=Option.ne_none_iff_exists'.1 (r2 i k hi hr hd)
   have hk':=hm.lt i k' hi e
   exact ⟨k',e,hr.step hd hi hk' ((inv_some hm).2 ⟨hi,e⟩)⟩)
theorem Leastp.dual {n K:Nat} {g:Nat→Nat→Int} {p:Nat→Int} (hp:Leastp n K g p):Dual n K g (ut K g p) p :=
 ⟨fun i _=>mx_nonneg _ _,hp.pos,fun i k _ hk=>by have:g i k - p k≤ut K g p i:=mx_ge (f:=fun k=>g i k - p k) k hk;omega⟩
structure IsBest (n K:Nat) (g:Nat→Nat→Int) (w:Int):Prop where
 le:∀ m,Mt n K m→sumN n (gval g m)≤w
 ex:∃ m,Mt n K m∧sumN n (gval g m)=w
theorem IsBest.uniq {n K:Nat} {g:Nat→Nat→Int} {w w':Int} (h:IsBest n K g w) (h':IsBest n K g w'):w=w':=by
 obtain ⟨m,h1,h2⟩:=h.ex
 obtain ⟨m',h3,h4⟩:=h'.ex
 have:=h.le m' h3
 have:=h'.le m h1
 omega
theorem Leastp.best {n K:Nat} {g:Nat→Nat→Int} {p:Nat→Int} {w:Int} (hp:Leastp n K g p) (hw:IsBest n K g w):w=sumN n (ut K g p)+sumN K p:=by
 obtain ⟨m,h1,h2,h3,h4⟩:=sold hp
 have e:=Dual.eq (g:=g) (u:=ut K g p) (p:=p) h1 (fun i k hi e=>by have:=(h2 i k hi e).2;omega) (fun i hi e=>by
   have h5:¬ mst K g p i:=fun h=>h3 i hi h e
   have h6:=mx_nonneg K (fun k=>g i k - p k)
   unfold mst at h5
   unfold ut at h5 ⊢
   omega) (fun k hk hu=>by
   have h5:¬ 0<p k:=fun h=>hu (h4 k hk h)
   have:=hp.pos k hk
   omega)
 have h5:=hw.le m h1
 obtain ⟨m',h6,h7⟩:=hw.ex
 have h8:=hp.dual.le h6
 omega
theorem Leastp.tight {n K:Nat} {g:Nat→Nat→Int} {p:Nat→Int} {w:Int} (hp:Leastp n K g p) (hw:IsBest n K g w) {m:Nat→Option Nat} (hm:Mt n K m) (he:sumN n (gval g m)=w) :
   In n (dm K g p) m∧(∀ i,i<n→m i=none→ut K g p i=0)∧(∀ k,k<K→¬ Used n m k→p k=0):=by
 obtain ⟨h1,h2,h3⟩:=hp.dual.tight hm (by have:=hp.best hw;omega)
 exact ⟨fun i k hi e=>⟨hm.lt i k hi e,by have:=h1 i k hi e;omega⟩,h2,h3⟩
theorem Leastp.pays {n K:Nat} {g:Nat→Nat→Int} {p:Nat→Int} {w w':Int} {i0 j:Nat} (hp:Leastp n K g p) (hw:IsBest n K g w) {m:Nat→Option Nat} (hm:Mt n K m) (he:sumN n (gval g m)=w) (hi0:i0<n) (hmi:m i0=some j)
   (hw':IsBest n K (fun i k=>if i=i0 then -1 else g i k) w'):p j=w' - (w - g i0 j):=by
 obtain ⟨hE,hN,hU⟩:=hp.tight hw hm he
 have hj:=hm.lt i0 j hi0 hmi
 have hT:∀ i,i<n→mst K g p i→m i≠none:=fun i hi h e=>by have:=hN i hi e;unfold mst at h;omega
 have hm0:Mt n K (fun x=>if x=i0 then none else m x):=⟨fun i k hi e=>by
   try dsimp only at e
   split at e
   · cases e
   · exact hm.lt i k hi e,fun i k z hi hk e1 e2=>by
   try dsimp only at e1 e2
   split at e1
   · cases e1
   · split at e2
     · cases e2
     · exact hm.inj i k z hi hk e1 e2⟩
 have hE0:In n (fun i k=>dm K g p i k∧i≠i0) (fun x=>if x=i0 then none else m x):=fun i k hi e=>by
   try dsimp only at e
   split at e
   · cases e
   · rename_i hne;exact ⟨hE i k hi e,hne⟩
 have hu0:∀ k,Used n (fun x=>if x=i0 then none else m x) k↔Used n m k∧k≠j:=fun k=>by
   constructor
   · rintro ⟨i,hi,e⟩
     try dsimp only at e
     split at e
     · cases e
     · rename_i hne
       exact ⟨⟨i,hi,e⟩,fun ek=>hne (hm.inj i i0 j hi hi0 (by rw [← ek];exact e) hmi)⟩
   · rintro ⟨⟨i,hi,e⟩,hne⟩
     refine ⟨i,hi,?_⟩
     have hii:i≠i0:=fun e2=>by rw [e2,hmi] at e;cases e;exact hne rfl
     try dsimp only
     rw [if_neg hii];exact e
 -- all others can have what they want, and all that is dear is sold
 have main:∃ m1,Mt n K m1∧In n (fun i k=>dm K g p i k∧i≠i0) m1∧(∀ i,i<n→i≠i0→m i≠none→m1 i≠none)∧∀ k,k<K→0<p k→Used n m1 k:=by
   by_cases hpj:0<p j
   · apply Classical.byContradiction
     intro hno
     have hv:=inv_mt hm0
     have hvE:=inv_in hm0 hE0
     have hvj:inv n (fun x=>if x=i0 then none else m x) j=none:=inv_none.2 (fun h=>((hu0 j).1 h).2 rfl)
     have more:∀ m2,Mt K n m2→In K (fun k i=>dm K g p i k∧i≠i0) m2→(∀ i,i<n→i≠i0→m i≠none→Used K m2 i)→(∀ k,k<K→0<p k→m2 k≠none)→False:=by
       intro m2 k1 k2 k3 k4
       exact hno ⟨inv K m2,inv_mt k1,inv_in k1 k2,fun i hi hne h e=>inv_none.1 e (k3 i hi hne h),fun k hk hpk=>(inv_used k1 k hk).2 (k4 k hk hpk)⟩
     have hused:∀ i,i<n→i≠i0→m i≠none→Used K (inv n (fun x=>if x=i0 then none else m x)) i:=fun i hi hne h=>(inv_used hm0 i hi).2 (by (try dsimp only);rw [if_neg hne];exact h)
     have hdear:∀ k,k<K→0<p k→k≠j→inv n (fun x=>if x=i0 then none else m x) k≠none:=fun k hk hpk hne e=>inv_none.1 e ((hu0 k).2 ⟨Classical.byContradiction fun h=>by have:=hU k hk h;omega,hne⟩)
     have r1:∀ k,k<K→Rch K n (fun k i=>dm K g p i k∧i≠i0) (inv n (fun x=>if x=i0 then none else m x)) j k→0<p k:=by
       intro k hk hr
       apply Classical.byContradiction
       intro hpk
       have hne:k≠j:=fun e=>hpk (by rw [e];exact hpj)
       obtain ⟨m2,k1,k2,k3,k4,k5,k6⟩:=hr.move hv hvE hj hvj
       exact more m2 k1 k2 (fun i hi hne h=>(k6 i).2 (hused i hi hne h)) (fun x hx hpx=>by
         by_cases hxj:x=j
         · rw [hxj];exact k4 hne
         · have hxk:x≠k:=fun e=>hpk (by rw [← e];exact hpx)
           exact fun e=>hdear x hx hpx hxj ((k5 x hxk hxj).1 e))
     have r2:∀ i k,i<n→i≠i0→Rch K n (fun k i=>dm K g p i k∧i≠i0) (inv n (fun x=>if x=i0 then none else m x)) j k→dm K g p i k→m i≠none:=by
       intro i k hi hii hr hd hn
       obtain ⟨m2,k1,k2,k3,k4,k5,k6⟩:=hr.move hv hvE hj hvj
       have hui:¬ Used K m2 i:=fun h=>by
         have:=(inv_used hm0 i hi).1 ((k6 i).1 h)
         try dsimp only at this
         rw [if_neg hii] at this
         exact this hn
       obtain ⟨q1,q2⟩:=k1.give k2 k i hi hui ⟨hd,hii⟩
       refine more _ q1 q2 (fun i' hi' hne' h => ?_) (fun x hx hpx => ?_)
       · obtain ⟨x,hx,e⟩:=(k6 i').2 (hused i' hi' hne' h)
         have hxk:x≠k:=fun e2=>by rw [e2,k3] at e;cases e
         exact ⟨x,hx,by (try dsimp only);rw [if_neg hxk];exact e⟩
       · try dsimp only
         by_cases e:x=k
         · rw [if_pos e];simp
         · rw [if_neg e]
           by_cases hxj:x=j
           · rw [hxj];exact k4 (fun e2=>e (by rw [hxj,e2]))
           · exact fun e2=>hdear x hx hpx hxj ((k5 x e hxj).1 e2)
     exact lower (R:=fun k=>Rch K n (fun k i=>dm K g p i k∧i≠i0) (inv n (fun x=>if x=i0 then none else m x)) j k) hp hm hT hE (fun k hk hr=>r1 k hk hr) hj Rch.base (fun i k hi hr hd=>by
       by_cases hii:i=i0
       · exact ⟨j,by rw [hii];exact hmi,Rch.base⟩
       · obtain ⟨k',e⟩:=Option.ne_none_iff_exists'.1 (r2 i k hi hii hr hd)
         have hk':=hm.lt i k' hi e
         exact ⟨k',e,hr.step ⟨hd,hii⟩ hi hk' ((inv_some hm0).2 ⟨hi,by (try dsimp only);rw [if_neg hii];exact e⟩)⟩)
   · refine ⟨_,hm0,hE0,fun i hi hne h=>by (try dsimp only);rw [if_neg hne];exact h,fun k hk hpk=>(hu0 k).2 ⟨Classical.byContradiction fun h=>by have:=hU k hk h;omega,fun e=>hpj (by rw [← e];exact hpk)⟩⟩
 obtain ⟨m1,a1,a2,a3,a4⟩:=main
 have hi1:m1 i0=none:=Classical.byContradiction fun h=>by
   obtain ⟨k,e⟩:=Option.ne_none_iff_exists'.1 h
   exact (a2 i0 k hi0 e).2 rfl
 have hd:Dual n K (fun i k=>if i=i0 then -1 else g i k) (fun i=>if i=i0 then 0 else ut K g p i) p:=⟨fun i hi=>by
   try dsimp only
   split
   · omega
   · exact mx_nonneg _ _,hp.pos,fun i k hi hk=>by
   try dsimp only
   split
   · have:=hp.pos k hk;omega
   · exact hp.dual.c i k hi hk⟩
 have e1:=Dual.eq (g:=fun i k=>if i=i0 then -1 else g i k) (u:=fun i=>if i=i0 then 0 else ut K g p i) (p:=p) a1 (fun i k hi e=>by
   obtain ⟨h1,h2⟩:=a2 i k hi e
   try dsimp only
   rw [if_neg h2,if_neg h2];have:=h1.2;omega) (fun i hi e=>by
   try dsimp only
   split
   · rfl
   · rename_i hne
     exact hN i hi (Classical.byContradiction fun h=>a3 i hi hne h e)) (fun k hk hu=>by
   have h5:¬ 0<p k:=fun h=>hu (a4 k hk h)
   have:=hp.pos k hk
   omega)
 have e2:=hw'.le m1 a1
 obtain ⟨m2,b1,b2⟩:=hw'.ex
 have e3:=hd.le b1
 have e4:=hp.best hw
 have e5:=sumN_upd (f:=fun i=>if i=i0 then 0 else ut K g p i) (g:=ut K g p) i0 hi0 (fun i hi hne=>by (try dsimp only);rw [if_neg hne])
 try dsimp only at e5
 rw [if_pos rfl] at e5
 have e6:=(hE i0 j hi0 hmi).2
 omega
end JM
end
end Go.Proofs.YtmmmjohoihpbeaaGreat
