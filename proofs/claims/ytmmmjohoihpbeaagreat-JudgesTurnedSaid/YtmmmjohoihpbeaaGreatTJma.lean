/- Sums,counts,matchings in plain Lean;no condition but those typed. -/
import Derived.Test.YtmmmjohoihpbeaaGreatRows
namespace Go.Proofs.YtmmmjohoihpbeaaGreat
section
namespace JM
open Classical
set_option linter.unusedVariables false
def sumN:Nat→(Nat→Int)→Int
 | 0,_=>0
 | n+1,f=>sumN n f+f n
theorem sumN_congr {n:Nat} {f g:Nat→Int} (h:∀ i,i<n→f i=g i):sumN n f=sumN n g:=by
 induction n with
 | zero=>rfl
 | succ n ih=>simp only [sumN];rw [ih fun i hi=>h i (by omega),h n (by omega)]
theorem sumN_le {n:Nat} {f g:Nat→Int} (h:∀ i,i<n→f i≤g i):sumN n f≤sumN n g:=by
 induction n with
 | zero=>exact Int.le_refl _
 | succ n ih =>
   have h1:=ih fun i hi=>h i (by omega)
   have h2:=h n (by omega)
   simp only [sumN];omega
theorem sumN_add (n:Nat) (f g:Nat→Int):sumN n (fun i=>f i+g i)=sumN n f+sumN n g:=by
 induction n with
 | zero=>rfl
 | succ n ih=>simp only [sumN,ih];omega
theorem sumN_zero (n:Nat):sumN n (fun _=>0)=0:=by
 induction n with
 | zero=>rfl
 | succ n ih=>simp only [sumN,ih];rfl
theorem sumN_eq {n:Nat} {f g:Nat→Int} (h:∀ i,i<n→f i≤g i) (e:sumN n g≤sumN n f):∀ i,i<n→f i=g i:=by
 induction n with
 | zero=>intro i hi;omega
 | succ n ih =>
   have h1:=sumN_le fun i (hi:i<n)=>h i (by omega)
   have h2:=h n (by omega)
   simp only [sumN] at e
   intro i hi
   by_cases hn:i=n
   · subst hn;omega
   · exact ih (fun i hi=>h i (by omega)) (by omega) i (by omega)
theorem sumN_upd {n:Nat} {f g:Nat→Int} (k:Nat) (hk:k<n) (h:∀ i,i<n→i≠k→f i=g i):sumN n f=sumN n g+(f k - g k):=by
 induction n with
 | zero=>omega
 | succ n ih =>
   simp only [sumN]
   by_cases hn:k=n
   · subst hn
     rw [sumN_congr fun i hi=>h i (by omega) (by omega)];omega
   · rw [ih (by omega) fun i hi hne=>h i (by omega) hne,h n (by omega) (by omega)];omega
noncomputable def cnt (n:Nat) (P:Nat→Prop):Nat:=(sumN n fun i=>if P i then 1 else 0).toNat
theorem cnt_eq (n:Nat) (P:Nat→Prop):(cnt n P:Int)=sumN n fun i=>if P i then 1 else 0:=by
 unfold cnt
 have:0≤sumN n fun i=>if P i then (1:Int) else 0:=by
   have h:=sumN_le (n:=n) (f:=fun _=>0) (g:=fun i=>if P i then (1:Int) else 0) (fun i _=>by split <;> omega)
   rwa [sumN_zero] at h
 omega
theorem cnt_zero (P:Nat→Prop):cnt 0 P=0:=rfl
theorem cnt_succ (n:Nat) (P:Nat→Prop):cnt (n+1) P=cnt n P+(if P n then 1 else 0):=by
 have h1:=cnt_eq (n+1) P
 have h2:=cnt_eq n P
 simp only [sumN] at h1
 split at h1 <;> split <;> first | omega | contradiction
theorem cnt_mono {n:Nat} {P Q:Nat→Prop} (h:∀ i,i<n→P i→Q i):cnt n P≤cnt n Q:=by
 have h1:=cnt_eq n P
 have h2:=cnt_eq n Q
 have:=sumN_le (n:=n) (f:=fun i=>if P i then (1:Int) else 0) (g:=fun i=>if Q i then (1:Int) else 0) (fun i hi=>by
   by_cases hp:P i
   · rw [if_pos hp,if_pos (h i hi hp)];exact Int.le_refl _
   · rw [if_neg hp];split <;> omega)
 omega
theorem cnt_congr {n:Nat} {P Q:Nat→Prop} (h:∀ i,i<n→(P i↔Q i)):cnt n P=cnt n Q :=
 Nat.le_antisymm (cnt_mono fun i hi=>(h i hi).1) (cnt_mono fun i hi=>(h i hi).2)
theorem cnt_le (n:Nat) (P:Nat→Prop):cnt n P≤n:=by
 induction n with
 | zero=>exact Nat.le_refl _
 | succ n ih=>rw [cnt_succ];split <;> omega
theorem cnt_add (n:Nat) (P Q:Nat→Prop):cnt n P=cnt n (fun i=>P i∧Q i)+cnt n (fun i=>P i∧¬ Q i):=by
 induction n with
 | zero=>rfl
 | succ n ih =>
   rw [cnt_succ,cnt_succ,cnt_succ,ih]
   by_cases hp:P n <;> by_cases hq:Q n <;> simp [hp,hq] <;> (try omega)
theorem cnt_one {n:Nat} {P:Nat→Prop} (k:Nat) (hk:k<n) (hp:P k):cnt n P=cnt n (fun i=>P i∧i≠k)+1:=by
 induction n with
 | zero=>omega
 | succ n ih =>
   rw [cnt_succ,cnt_succ]
   by_cases hn:k=n
   · subst hn
     rw [if_pos hp,if_neg (fun h=>h.2 rfl),cnt_congr (Q:=fun i=>P i∧i≠k) (fun i hi=>⟨fun h=>⟨h,by omega⟩,fun h=>h.1⟩)]
   · rw [ih (by omega)]
     by_cases hpn:P n
     · rw [if_pos hpn,if_pos ⟨hpn,fun e=>hn e.symm⟩];try omega
     · rw [if_neg hpn,if_neg (fun h=>hpn h.1)]
theorem cnt_pos {n:Nat} {P:Nat→Prop} (h:0<cnt n P):∃ i,i<n∧P i:=by
 induction n with
 | zero=>rw [cnt_zero] at h;omega
 | succ n ih =>
   rw [cnt_succ] at h
   by_cases hp:P n
   · exact ⟨n,by omega,hp⟩
   · rw [if_neg hp] at h
     obtain ⟨i,hi,hpi⟩:=ih (by omega)
     exact ⟨i,by omega,hpi⟩
theorem cnt_inj {n K:Nat} {P Q:Nat→Prop} (R:Nat→Nat→Prop) (h1:∀ i,i<n→P i→∃ k,k<K∧Q k∧R i k) (h2:∀ i j k,i<n→j<n→P i→P j→R i k→R j k→i=j):cnt n P≤cnt K Q:=by
 induction n generalizing Q with
 | zero=>rw [cnt_zero];omega
 | succ n ih =>
   rw [cnt_succ]
   by_cases hp:P n
   · rw [if_pos hp]
     obtain ⟨k,hk,hq,hr⟩:=h1 n (by omega) hp
     have:=ih (Q:=fun x=>Q x∧x≠k) (fun i hi hpi=>by
       obtain ⟨k',a,b,c⟩:=h1 i (by omega) hpi
       exact ⟨k',a,⟨b,fun e=>by subst e;have:=h2 i n k' (by omega) (by omega) hpi hp c hr;omega⟩,c⟩) (fun i j k hi hj=>h2 i j k (by omega) (by omega))
     rw [cnt_one k hk hq];omega
   · rw [if_neg hp]
     have:=ih (Q:=Q) (fun i hi=>h1 i (by omega)) (fun i j k hi hj=>h2 i j k (by omega) (by omega))
     omega
theorem greatest {α:Type} (P:α→Prop) (f:α→Nat) (B:Nat) (hB:∀ x,P x→f x≤B) (x0:α) (h0:P x0):∃ x,P x∧∀ y,P y→f y≤f x:=by
 have:∀ d,∀ x,P x→B - f x≤d→∃ x,P x∧∀ y,P y→f y≤f x:=by
   intro d
   induction d with
   | zero=>exact fun x hx hd=>⟨x,hx,fun y hy=>by have:=hB y hy;omega⟩
   | succ d ih =>
     intro x hx hd
     by_cases hm:∀ y,P y→f y≤f x
     · exact ⟨x,hx,hm⟩
     · obtain ⟨y,hy⟩:=Classical.not_forall.1 hm
       obtain ⟨hy1,hy2⟩:=Classical.not_imp.1 hy
       exact ih y hy1 (by have:=hB y hy1;omega)
 exact this _ x0 h0 (Nat.le_refl _)
structure Mt (n K:Nat) (m:Nat→Option Nat):Prop where
 lt:∀ i k,i<n→m i=some k→k<K
 inj:∀ i j k,i<n→j<n→m i=some k→m j=some k→i=j
def Used (n:Nat) (m:Nat→Option Nat) (k:Nat):Prop:=∃ i,i<n∧m i=some k
def gval (f:Nat→Nat→Int) (m:Nat→Option Nat) (i:Nat):Int:=match m i with | none=>0 | some k=>f i k
theorem gval_none {f:Nat→Nat→Int} {m:Nat→Option Nat} {i:Nat} (h:m i=none):gval f m i=0:=by unfold gval;rw [h]
theorem gval_some {f:Nat→Nat→Int} {m:Nat→Option Nat} {i k:Nat} (h:m i=some k):gval f m i=f i k:=by unfold gval;rw [h]
theorem sum_inj {n K:Nat} {m:Nat→Option Nat} (h:Mt n K m) (p:Nat→Int):sumN n (gval (fun _ k=>p k) m)+sumN K (fun k=>if Used n m k then 0 else p k)=sumN K p:=by
 induction n with
 | zero =>
   simp only [sumN]
   rw [sumN_congr (g:=p) (fun k hk=>by rw [if_neg];rintro ⟨i,hi,_⟩;omega)]
   omega
 | succ n ih =>
   have hn:Mt n K m:=⟨fun i k hi=>h.lt i k (by omega),fun i j k hi hj=>h.inj i j k (by omega) (by omega)⟩
   have:=ih hn
   simp only [sumN]
   cases hm:m n with
   | none =>
     have e1:=sumN_congr (n:=K) (f:=fun k=>if Used (n+1) m k then 0 else p k) (g:=fun k=>if Used n m k then 0 else p k) (fun k hk=>by
       have:Used (n+1) m k↔Used n m k:=⟨fun ⟨i,hi,e⟩ => ⟨i,by
         by_cases hin:i=n
         · subst hin;rw [hm] at e;cases e
         · omega,e⟩,fun ⟨i,hi,e⟩ => ⟨i,by omega,e⟩⟩
       by_cases hu:Used n m k
       · rw [if_pos hu,if_pos (this.2 hu)]
       · rw [if_neg hu,if_neg (fun q=>hu (this.1 q))])
     rw [gval_none hm,e1]
     omega
   | some k0 =>
     have hk0:=h.lt n k0 (by omega) hm
     have hnu:¬ Used n m k0:=fun ⟨i,hi,e⟩ => by have:=h.inj i n k0 (by omega) (by omega) e hm;omega
     rw [gval_some hm,sumN_upd (f:=fun k=>if Used (n+1) m k then 0 else p k) (g:=fun k=>if Used n m k then 0 else p k) k0 hk0 (fun k hk hne=>by
       have:Used (n+1) m k↔Used n m k:=⟨fun ⟨i,hi,e⟩ => ⟨i,by
         by_cases hin:i=n
         · subst hin;rw [hm] at e;cases e;exact absurd rfl hne
         · omega,e⟩,fun ⟨i,hi,e⟩ => ⟨i,by omega,e⟩⟩
       by_cases hu:Used n m k
       · rw [if_pos hu,if_pos (this.2 hu)]
       · rw [if_neg hu,if_neg (fun q=>hu (this.1 q))])]
     rw [if_pos (show Used (n+1) m k0 from ⟨n,by omega,hm⟩),if_neg hnu]
     omega
structure Dual (n K:Nat) (g:Nat→Nat→Int) (u p:Nat→Int):Prop where
 hu:∀ i,i<n→0≤u i
 hp:∀ k,k<K→0≤p k
 c:∀ i k,i<n→k<K→g i k≤u i+p k
theorem Dual.le {n K:Nat} {g:Nat→Nat→Int} {u p:Nat→Int} (h:Dual n K g u p) {m:Nat→Option Nat} (hm:Mt n K m):sumN n (gval g m)≤sumN n u+sumN K p:=by
 have h1:=sum_inj hm p
 have h2:0≤sumN K (fun k=>if Used n m k then 0 else p k):=by
   have:=sumN_le (n:=K) (f:=fun _=>0) (g:=fun k=>if Used n m k then 0 else p k) (fun k hk=>by split;omega;exact h.hp k hk)
   rwa [sumN_zero] at this
 have h3:sumN n (gval g m)≤sumN n (fun i=>u i+gval (fun _ k=>p k) m i):=sumN_le fun i hi=>by
   cases e:m i with
   | none=>rw [gval_none e,gval_none e];have:=h.hu i hi;omega
   | some k=>rw [gval_some e,gval_some e];exact h.c i k hi (hm.lt i k hi e)
 rw [sumN_add] at h3
 omega
theorem Dual.tight {n K:Nat} {g:Nat→Nat→Int} {u p:Nat→Int} (h:Dual n K g u p) {m:Nat→Option Nat} (hm:Mt n K m) (he:sumN n u+sumN K p≤sumN n (gval g m)) :
   (∀ i k,i<n→m i=some k→g i k=u i+p k)∧(∀ i,i<n→m i=none→u i=0)∧(∀ k,k<K→¬ Used n m k→p k=0):=by
 have h1:=sum_inj hm p
 have h2:=sumN_le (n:=K) (f:=fun _=>0) (g:=fun k=>if Used n m k then 0 else p k) (fun k hk=>by split;omega;exact h.hp k hk)
 rw [sumN_zero] at h2
 have h3:∀ i,i<n→gval g m i≤u i+gval (fun _ k=>p k) m i:=fun i hi=>by
   cases e:m i with
   | none=>rw [gval_none e,gval_none e];have:=h.hu i hi;omega
   | some k=>rw [gval_some e,gval_some e];exact h.c i k hi (hm.lt i k hi e)
 have h4:=sumN_le h3
 rw [sumN_add] at h4
 have h5:=sumN_eq h3 (by rw [sumN_add];omega)
 refine ⟨fun i k hi e => ?_,fun i hi e => ?_,fun k hk hu => ?_⟩
 · have:=h5 i hi;rwa [gval_some e,gval_some e] at this
 · have:=h5 i hi;rw [gval_none e,gval_none e] at this;omega
 · have h6:=sumN_eq (n:=K) (f:=fun _=>0) (g:=fun k=>if Used n m k then 0 else p k) (fun k hk=>by split;omega;exact h.hp k hk) (by rw [sumN_zero];omega) k hk
   try dsimp only at h6
   rw [if_neg hu] at h6
   exact h6.symm
theorem Dual.eq {n K:Nat} {g:Nat→Nat→Int} {u p:Nat→Int} {m:Nat→Option Nat} (hm:Mt n K m) (h1:∀ i k,i<n→m i=some k→g i k=u i+p k) (h2:∀ i,i<n→m i=none→u i=0) (h3:∀ k,k<K→¬ Used n m k→p k=0):sumN n (gval g m)=sumN n u+sumN K p:=by
 have h4:=sum_inj hm p
 have h5:sumN K (fun k=>if Used n m k then 0 else p k)=0:=by
   refine (sumN_congr (g:=fun _=>0) fun k hk => ?_).trans (sumN_zero K)
   by_cases hu:Used n m k
   · rw [if_pos hu]
   · rw [if_neg hu];exact h3 k hk hu
 have h6:sumN n (gval g m)=sumN n (fun i=>u i+gval (fun _ k=>p k) m i):=sumN_congr fun i hi=>by
   cases e:m i with
   | none=>rw [gval_none e,gval_none e,h2 i hi e];rfl
   | some k=>rw [gval_some e,gval_some e,h1 i k hi e]
 rw [sumN_add] at h6
 omega
section
variable (n K:Nat) (E:Nat→Nat→Prop) (m:Nat→Option Nat) (i0:Nat)
inductive Pth:List Nat→Prop
 | base:Pth [i0]
 | step (i:Nat) (l:List Nat) (k i':Nat):Pth (i :: l)→E i k→k<K→i'<n→m i'=some k→i' ∉ i :: l→Pth (i' :: i :: l)
end
theorem Pth.suffix {n K:Nat} {E:Nat→Nat→Prop} {m:Nat→Option Nat} {i0:Nat} {l:List Nat} (h:Pth n K E m i0 l):∀ x ∈ l,∃ l',Pth n K E m i0 (x :: l'):=by
 induction h with
 | base=>intro x hx;simp at hx;subst hx;exact ⟨[],.base⟩
 | step i l k i' h1 h2 h3 h4 h5 h6 ih =>
   intro x hx
   rcases List.mem_cons.1 hx with rfl | hx
   · exact ⟨i :: l,.step i l k x h1 h2 h3 h4 h5 h6⟩
   · exact ih x hx
def Rch (n K:Nat) (E:Nat→Nat→Prop) (m:Nat→Option Nat) (i0 i:Nat):Prop:=∃ l,Pth n K E m i0 (i :: l)
theorem Rch.base {n K:Nat} {E:Nat→Nat→Prop} {m:Nat→Option Nat} {i0:Nat}:Rch n K E m i0 i0:=⟨[],.base⟩
theorem Rch.step {n K:Nat} {E:Nat→Nat→Prop} {m:Nat→Option Nat} {i0 i k i':Nat} (h:Rch n K E m i0 i) (h1:E i k) (h2:k<K) (h3:i'<n) (h4:m i'=some k):Rch n K E m i0 i':=by
 obtain ⟨l,h⟩:=h
 by_cases hm:i' ∈ i :: l
 · exact h.suffix i' hm
 · exact ⟨i :: l,.step i l k i' h h1 h2 h3 h4 hm⟩
def In (n:Nat) (E:Nat→Nat→Prop) (m:Nat→Option Nat):Prop:=∀ i k,i<n→m i=some k→E i k
theorem Pth.move {n K:Nat} {E:Nat→Nat→Prop} {m:Nat→Option Nat} {i0:Nat} (hm:Mt n K m) (hE:In n E m) (h0:i0<n) (hn:m i0=none) {l:List Nat} (h:Pth n K E m i0 l) :
   ∀ a l',l=a :: l'→∃ m',Mt n K m'∧In n E m'∧m' a=none∧(∀ i,i ∉ l→m' i=m i)∧(∀ i,i ∈ l'→m' i≠none)∧∀ k,Used n m' k↔Used n m k:=by
 induction h with
 | base =>
   intro a l' e
   cases e
   exact ⟨m,hm,hE,hn,fun _ _=>rfl,(fun i hi=>by cases hi),fun _=>Iff.rfl⟩
 | step i l k i' h1 h2 h3 h4 h5 h6 ih =>
   intro a l' e
   cases e
   obtain ⟨m2,a1,a2,a3,a4,a5,a6⟩:=ih i l rfl
   have hi:i<n:=by cases h1 with
     | base=>exact h0
     | step _ _ _ _ _ _ _ q _ _=>exact q
   have hii:i'≠i:=fun e=>h6 (by rw [e];exact List.mem_cons_self)
   have h5':m2 i'=some k:=by rw [a4 i' h6];exact h5
   refine ⟨fun x=>if x=i' then none else if x=i then some k else m2 x,⟨fun x y hx hxy => ?_,fun x y z hx hy hxz hyz => ?_⟩,fun x y hx hxy => ?_,by simp,fun x hx => ?_,fun x hx => ?_,fun z => ?_⟩
   · try dsimp only at hxy
     split at hxy
     · cases hxy
     · split at hxy
       · cases hxy;exact h3
       · exact a1.lt x y hx hxy
   · try dsimp only at hxz hyz
     split at hxz
     · cases hxz
     · rename_i nx
       split at hyz
       · cases hyz
       · rename_i ny
         split at hxz <;> split at hyz
         · rename_i e1 e2;rw [e1,e2]
         · rename_i e1 e2
           cases hxz
           exact absurd (a1.inj y i' k hy h4 hyz h5') ny
         · rename_i e1 e2
           cases hyz
           exact absurd (a1.inj x i' k hx h4 hxz h5') nx
         · exact a1.inj x y z hx hy hxz hyz
   · try dsimp only at hxy
     split at hxy
     · cases hxy
     · split at hxy
       · rename_i e;cases hxy;rw [e];exact h2
       · exact a2 x y hx hxy
   · try dsimp only
     rw [if_neg (fun e=>hx (by rw [e];exact List.mem_cons_self)),if_neg (fun e=>hx (by rw [e];exact List.mem_cons_of_mem _ List.mem_cons_self))]
     exact a4 x (fun h=>hx (List.mem_cons_of_mem _ h))
   · try dsimp only
     have hxi:x≠i':=fun e=>h6 (by rw [← e];exact hx)
     rw [if_neg hxi]
     split
     · simp
     · rename_i hne
       rcases List.mem_cons.1 hx with e | hx
       · exact absurd e hne
       · exact a5 x hx
   · rw [← a6 z]
     constructor
     · rintro ⟨x,hx,e⟩
       try dsimp only at e
       split at e
       · cases e
       · split at e
         · cases e;exact ⟨i',h4,h5'⟩
         · exact ⟨x,hx,e⟩
     · rintro ⟨x,hx,e⟩
       by_cases hxi:x=i'
       · subst hxi
         rw [h5'] at e;cases e
         exact ⟨i,hi,by simp [Ne.symm hii]⟩
       · by_cases hx2:x=i
         · subst hx2;rw [a3] at e;cases e
         · exact ⟨x,hx,by simp [hxi,hx2,e]⟩
theorem Rch.move {n K:Nat} {E:Nat→Nat→Prop} {m:Nat→Option Nat} {i0 a:Nat} (hm:Mt n K m) (hE:In n E m) (h0:i0<n) (hn:m i0=none) (h:Rch n K E m i0 a) :
   ∃ m',Mt n K m'∧In n E m'∧m' a=none∧(a≠i0→m' i0≠none)∧(∀ i,i≠a→i≠i0→(m' i=none↔m i=none))∧∀ k,Used n m' k↔Used n m k:=by
 obtain ⟨l,hp⟩:=h
 obtain ⟨m',a1,a2,a3,a4,a5,a6⟩:=hp.move hm hE h0 hn a l rfl
 have hlast:∀ (l:List Nat),Pth n K E m i0 l→i0 ∈ l∧∀ x ∈ l,x≠i0→m x≠none:=by
   intro l h
   induction h with
   | base=>exact ⟨by simp,fun x hx hne=>by simp at hx;exact absurd hx hne⟩
   | step i l k i' _ _ _ _ h5 _ ih =>
     refine ⟨List.mem_cons_of_mem _ ih.1,fun x hx hne => ?_⟩
     rcases List.mem_cons.1 hx with rfl | hx
     · rw [h5];simp
     · exact ih.2 x hx hne
 obtain ⟨q1,q2⟩:=hlast _ hp
 refine ⟨m',a1,a2,a3,fun hne => ?_,fun i h1 h2 => ?_,a6⟩
 · rcases List.mem_cons.1 q1 with e | e
   · exact absurd e.symm hne
   · exact a5 i0 e
 · by_cases hi:i ∈ a :: l
   · constructor
     · intro e
       rcases List.mem_cons.1 hi with e2 | e2
       · exact absurd e2 h1
       · exact absurd e (a5 i e2)
     · intro e;exact absurd e (q2 i hi h2)
   · rw [a4 i hi]
theorem Mt.give {n K:Nat} {E:Nat→Nat→Prop} {m:Nat→Option Nat} (hm:Mt n K m) (hE:In n E m) (a k:Nat) (hk:k<K) (hu:¬ Used n m k) (he:E a k):Mt n K (fun x=>if x=a then some k else m x)∧In n E (fun x=>if x=a then some k else m x):=by
 refine ⟨⟨fun x y hx e => ?_,fun x y z hx hy e1 e2 => ?_⟩,fun x y hx e => ?_⟩
 · try dsimp only at e
   split at e
   · cases e;exact hk
   · exact hm.lt x y hx e
 · try dsimp only at e1 e2
   split at e1 <;> split at e2
   · rename_i h1 h2;rw [h1,h2]
   · cases e1;exact absurd ⟨y,hy,e2⟩ hu
   · cases e2;exact absurd ⟨x,hx,e1⟩ hu
   · exact hm.inj x y z hx hy e1 e2
 · try dsimp only at e
   split at e
   · rename_i h1;cases e;rw [h1];exact he
   · exact hE x y hx e
noncomputable def inv (n:Nat) (m:Nat→Option Nat) (k:Nat):Option Nat:=if h:∃ i,i<n∧m i=some k then some (Classical.choose h) else none
theorem inv_some {n K:Nat} {m:Nat→Option Nat} (hm:Mt n K m) {i k:Nat}:inv n m k=some i↔i<n∧m i=some k:=by
 unfold inv
 split
 · rename_i h
   have hs:=Classical.choose_spec h
   constructor
   · intro e;cases e;exact hs
   · intro e;rw [hm.inj _ i k hs.1 e.1 hs.2 e.2]
 · rename_i h
   exact ⟨(fun e=>by cases e),fun e=>absurd ⟨i,e⟩ h⟩
theorem inv_none {n:Nat} {m:Nat→Option Nat} {k:Nat}:inv n m k=none↔¬ Used n m k:=by
 unfold inv
 split
 · rename_i h;exact ⟨(fun e=>by cases e),fun e=>absurd h e⟩
 · rename_i h;exact ⟨fun _=>h,fun _=>rfl⟩
theorem inv_mt {n K:Nat} {m:Nat→Option Nat} (hm:Mt n K m):Mt K n (inv n m) :=
 ⟨fun k i _ e=>((inv_some hm).1 e).1,fun k k' i _ _ e1 e2=>by
   have:=((inv_some hm).1 e1).2.symm.trans ((inv_some hm).1 e2).2
   cases this;rfl⟩
theorem inv_used {n K:Nat} {m:Nat→Option Nat} (hm:Mt n K m) (i:Nat) (hi:i<n):Used K (inv n m) i↔m i≠none:=by
 constructor
 · rintro ⟨k,_,e⟩
   rw [((inv_some hm).1 e).2];simp
 · intro h
   obtain ⟨k,e⟩:=Option.ne_none_iff_exists'.1 h
   exact ⟨k,hm.lt i k hi e,(inv_some hm).2 ⟨hi,e⟩⟩
theorem inv_in {n K:Nat} {E:Nat→Nat→Prop} {m:Nat→Option Nat} (hm:Mt n K m) (hE:In n E m):In K (fun k i=>E i k) (inv n m):=fun k i _ e=>hE i k ((inv_some hm).1 e).1 ((inv_some hm).1 e).2
theorem hall {n K:Nat} {E:Nat→Nat→Prop} {T:Nat→Prop} (h:∀ S:Nat→Prop,cnt n (fun i=>T i∧∀ k,k<K→E i k→S k)≤cnt K S) :
   ∃ m,Mt n K m∧In n E m∧∀ i,i<n→T i→m i≠none:=by
 obtain ⟨m,⟨hm,hE⟩,hmax⟩:=greatest (fun m=>Mt n K m∧In n E m) (fun m=>cnt n (fun i=>T i∧m i≠none)) n (fun _ _=>cnt_le _ _) (fun _=>none) ⟨⟨(fun _ _ _ e=>by cases e),(fun _ _ _ _ _ e=>by cases e)⟩,(fun _ _ _ e=>by cases e)⟩
 refine ⟨m,hm,hE,fun i0 h0 ht0 hn => ?_⟩
 -- all that is reached is in T, and all that it may have is had by such
 have more:∀ m',Mt n K m'→In n E m'→m' i0≠none→(∀ i,i<n→T i→i≠i0→m i≠none→m' i≠none)→False:=by
   intro m' k1 k2 k3 k4
   have:=hmax m' ⟨k1,k2⟩
   have e1:=cnt_one (n:=n) (P:=fun i=>T i∧m' i≠none) i0 h0 ⟨ht0,k3⟩
   have e2:=cnt_mono (n:=n) (P:=fun i=>T i∧m i≠none) (Q:=fun i=>(T i∧m' i≠none)∧i≠i0) (fun i hi hp=>by
     have hne:i≠i0:=fun e=>hp.2 (by rw [e];exact hn)
     exact ⟨⟨hp.1,k4 i hi hp.1 hne hp.2⟩,hne⟩)
   omega
 have rT:∀ i,Rch n K E m i0 i→T i:=by
   intro i hr
   apply Classical.byContradiction
   intro hT
   have hne:i≠i0:=fun e=>hT (by rw [e];exact ht0)
   obtain ⟨m',k1,k2,k3,k4,k5,_⟩:=hr.move hm hE h0 hn
   exact more m' k1 k2 (k4 hne) (fun x hx hTx hx0 hmx e=>by
     have hxi:x≠i:=fun e=>hT (by rw [← e];exact hTx)
     exact hmx ((k5 x hxi hx0).1 e))
 have rU:∀ i k,Rch n K E m i0 i→E i k→k<K→Used n m k:=by
   intro i k hr he hk
   apply Classical.byContradiction
   intro hu
   obtain ⟨m',k1,k2,k3,k4,k5,k6⟩:=hr.move hm hE h0 hn
   obtain ⟨q1,q2⟩:=k1.give k2 i k hk (fun h=>hu ((k6 k).1 h)) he
   refine more _ q1 q2 ?_ (fun x hx hTx hx0 hmx => ?_)
   · try dsimp only
     split
     · simp
     · rename_i hne;exact k4 (fun e=>hne e.symm)
   · try dsimp only
     split
     · simp
     · rename_i hne
       exact fun e=>hmx ((k5 x hne hx0).1 e)
 have hS:=h (fun k => ∃ i,Rch n K E m i0 i∧E i k)
 have e1:=cnt_mono (n:=n) (P:=Rch n K E m i0) (Q:=fun i=>T i∧∀ k,k<K→E i k→∃ i,Rch n K E m i0 i∧E i k) (fun i hi hr=>⟨rT i hr,fun k _ he=>⟨i,hr,he⟩⟩)
 have e2:=cnt_one (n:=n) (P:=Rch n K E m i0) i0 h0 Rch.base
 have e3:=cnt_inj (n:=K) (K:=n) (P:=fun k => ∃ i,Rch n K E m i0 i∧E i k) (Q:=fun i=>Rch n K E m i0 i∧i≠i0) (fun k i=>m i=some k) (fun k hk ⟨i,hr,he⟩ => by
   obtain ⟨i',hi',e⟩:=rU i k hr he hk
   exact ⟨i',hi',⟨hr.step he hk hi' e,fun e2=>by rw [e2,hn] at e;cases e⟩,e⟩) (fun k k' i _ _ _ _ a b=>by rw [a] at b;cases b;rfl)
 omega
theorem hall_back {n K:Nat} {E:Nat→Nat→Prop} {T:Nat→Prop} {m:Nat→Option Nat} (hm:Mt n K m) (hE:∀ i k,i<n→T i→m i=some k→E i k) (hT:∀ i,i<n→T i→m i≠none) (S:Nat→Prop):cnt n (fun i=>T i∧∀ k,k<K→E i k→S k)≤cnt K S :=
 cnt_inj (fun i k=>m i=some k) (fun i hi ⟨h1,h2⟩ => by
   obtain ⟨k,e⟩:=Option.ne_none_iff_exists'.1 (hT i hi h1)
   exact ⟨k,hm.lt i k hi e,h2 k (hm.lt i k hi e) (hE i k hi h1 e),e⟩) (fun i j k hi hj _ _ a b=>hm.inj i j k hi hj a b)
end JM
end
end Go.Proofs.YtmmmjohoihpbeaaGreat
