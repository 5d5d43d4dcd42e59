/- What is gained at the most,item by item,and bidder by bidder;plain Lean;no condition but those typed. -/
import Derived.Test.YtmmmjohoihpbeaaGreatQOJmaJmb
namespace Go.Proofs.YtmmmjohoihpbeaaGreat
section
namespace JM
open Classical
set_option linter.unusedVariables false
def Of (n:Nat) (S A:Nat→Prop) (m:Nat→Option Nat):Prop:=∀ i k,i<n→m i=some k→S i∧A k
structure IsG (n K:Nat) (g:Nat→Nat→Int) (S A:Nat→Prop) (w:Int):Prop where
 le:∀ m,Mt n K m→Of n S A m→sumN n (gval g m)≤w
 ex:∃ m,Mt n K m∧Of n S A m∧sumN n (gval g m)=w
theorem IsG.uniq {n K:Nat} {g:Nat→Nat→Int} {S A:Nat→Prop} {w w':Int} (h:IsG n K g S A w) (h':IsG n K g S A w'):w=w':=by
 obtain ⟨m,h1,h2,h3⟩:=h.ex
 obtain ⟨m',h4,h5,h6⟩:=h'.ex
 have:=h.le m' h4 h5
 have:=h'.le m h1 h2
 omega
theorem IsG.congr {n K:Nat} {g:Nat→Nat→Int} {S A S' A':Nat→Prop} {w:Int} (h:IsG n K g S A w) (hS:∀ i,i<n→(S i↔S' i)) (hA:∀ k,k<K→(A k↔A' k)):IsG n K g S' A' w :=
 ⟨fun m hm ho=>h.le m hm fun i k hi e=>⟨(hS i hi).2 (ho i k hi e).1,(hA k (hm.lt i k hi e)).2 (ho i k hi e).2⟩,by
   obtain ⟨m,h1,h2,h3⟩:=h.ex
   exact ⟨m,h1,fun i k hi e=>⟨(hS i hi).1 (h2 i k hi e).1,(hA k (h1.lt i k hi e)).1 (h2 i k hi e).2⟩,h3⟩⟩
theorem IsG.best {n K:Nat} {g:Nat→Nat→Int} {S A:Nat→Prop} {w:Int} (h:IsG n K g S A w) (hS:∀ i,i<n→S i) (hA:∀ k,k<K→A k):IsBest n K g w :=
 ⟨fun m hm=>h.le m hm fun i k hi e=>⟨hS i hi,hA k (hm.lt i k hi e)⟩,by
   obtain ⟨m,h1,_,h3⟩:=h.ex
   exact ⟨m,h1,h3⟩⟩
theorem IsG.none {n K:Nat} {g:Nat→Nat→Int} {S A:Nat→Prop} (h:(∀ i,i<n→¬ S i)∨∀ k,k<K→¬ A k):IsG n K g S A 0:=by
 have hz:sumN n (gval g fun _=>.none)=0:=(sumN_congr (g:=fun _=>0) fun i _=>rfl).trans (sumN_zero n)
 refine ⟨fun m hm ho => ?_,fun _=>.none,⟨fun _ _ _ e=>(by cases e),fun _ _ _ _ _ e=>(by cases e)⟩,(fun _ _ _ e=>by cases e),hz⟩
 have:sumN n (gval g m)=0:=(sumN_congr (g:=fun _=>0) fun i hi=>by
   cases e:m i with
   | none=>exact gval_none e
   | some k =>
     rcases h with h | h
     · exact absurd (ho i k hi e).1 (h i hi)
     · exact absurd (ho i k hi e).2 (h k (hm.lt i k hi e))).trans (sumN_zero n)
 omega
def drop (m:Nat→Option Nat) (i x:Nat):Option Nat:=if x=i then .none else m x
theorem drop_mt {n K:Nat} {m:Nat→Option Nat} (h:Mt n K m) (i:Nat):Mt n K (drop m i) :=
 ⟨fun x k hx e=>by
   unfold drop at e
   split at e
   · cases e
   · exact h.lt x k hx e,fun x y k hx hy e1 e2=>by
   unfold drop at e1 e2
   split at e1
   · cases e1
   · split at e2
     · cases e2
     · exact h.inj x y k hx hy e1 e2⟩
theorem drop_sum {n:Nat} {g:Nat→Nat→Int} {m:Nat→Option Nat} {i k:Nat} (hi:i<n) (e:m i=some k):sumN n (gval g m)=sumN n (gval g (drop m i))+g i k:=by
 rw [sumN_upd (f:=gval g m) (g:=gval g (drop m i)) i hi (fun x hx hne=>by unfold gval drop;rw [if_neg hne]),gval_some e,gval_none (show drop m i i=.none by unfold drop;rw [if_pos rfl])]
 omega
theorem give_sum {n:Nat} {g:Nat→Nat→Int} {m:Nat→Option Nat} {i k:Nat} (hi:i<n) (e:m i=.none):sumN n (gval g (fun x=>if x=i then some k else m x))=sumN n (gval g m)+g i k:=by
 rw [sumN_upd (f:=gval g (fun x=>if x=i then some k else m x)) (g:=gval g m) i hi (fun x hx hne=>by unfold gval;dsimp only;rw [if_neg hne]),gval_some (show (if i=i then some k else m i)=some k by rw [if_pos rfl]),gval_none e]
 omega
theorem IsG.item {n K:Nat} {g:Nat→Nat→Int} {S A:Nat→Prop} {w W:Int} {k:Nat} (hk:k<K) (hA:¬ A k) (h:IsG n K g S A w) (u:Nat→Int) (hu:∀ i,i<n→S i→0≤g i k→IsG n K g (fun x=>S x∧x≠i) A (u i))
   (h1:w≤W) (h2:∀ i,i<n→S i→0≤g i k→u i+g i k≤W) (h3:W=w∨∃ i,i<n∧S i∧0≤g i k∧W=u i+g i k):IsG n K g S (fun x=>A x∨x=k) W:=by
 refine ⟨fun m hm ho => ?_,?_⟩
 · by_cases hU:Used n m k
   · obtain ⟨i,hi,e⟩:=hU
     have hd:=drop_mt hm i
     have hs:=drop_sum (g:=g) hi e
     have hod:Of n (fun x=>S x∧x≠i) A (drop m i):=fun x y hx ex=>by
       unfold drop at ex
       split at ex
       · cases ex
       · rename_i hne
         refine ⟨⟨(ho x y hx ex).1,hne⟩,(ho x y hx ex).2.resolve_right fun e2=>hne (hm.inj x i k hx hi (by rw [← e2];exact ex) e)⟩
     by_cases hg:0≤g i k
     · have:=(hu i hi (ho i k hi e).1 hg).le _ hd hod
       have:=h2 i hi (ho i k hi e).1 hg
       omega
     · have:=h.le _ hd (fun x y hx ex=>⟨(hod x y hx ex).1.1,(hod x y hx ex).2⟩)
       omega
   · have:=h.le m hm (fun i y hi e=>⟨(ho i y hi e).1,(ho i y hi e).2.resolve_right fun e2=>hU ⟨i,hi,by rw [← e2];exact e⟩⟩)
     omega
 · rcases h3 with rfl | ⟨i,hi,hs,hg,rfl⟩
   · obtain ⟨m,a,b,c⟩:=h.ex
     exact ⟨m,a,fun i y hi e=>⟨(b i y hi e).1,.inl (b i y hi e).2⟩,c⟩
   · obtain ⟨m,a,b,c⟩:=(hu i hi hs hg).ex
     have hmi:m i=.none:=Classical.byContradiction fun hn=>by
       obtain ⟨y,e⟩:=Option.ne_none_iff_exists'.1 hn
       exact (b i y hi e).1.2 rfl
     have hnu:¬ Used n m k:=fun ⟨x,hx,e⟩ => hA (b x k hx e).2
     obtain ⟨q1,_⟩:=a.give (E:=fun _ _=>True) (fun _ _ _ _=>trivial) i k hk hnu trivial
     refine ⟨_,q1,fun x y hx e => ?_,by rw [give_sum hi hmi,c]⟩
     try dsimp only at e
     split at e
     · rename_i ex;cases e;exact ⟨by rw [ex];exact hs,.inr rfl⟩
     · exact ⟨(b x y hx e).1.1,.inl (b x y hx e).2⟩
theorem IsG.bidder {n K:Nat} {g:Nat→Nat→Int} {S A:Nat→Prop} {w W:Int} {i:Nat} (hi:i<n) (hS:¬ S i) (h:IsG n K g S A w) (u:Nat→Int) (hu:∀ k,k<K→A k→0≤g i k→IsG n K g S (fun x=>A x∧x≠k) (u k))
   (h1:w≤W) (h2:∀ k,k<K→A k→0≤g i k→u k+g i k≤W) (h3:W=w∨∃ k,k<K∧A k∧0≤g i k∧W=u k+g i k):IsG n K g (fun x=>S x∨x=i) A W:=by
 refine ⟨fun m hm ho => ?_,?_⟩
 · have hod:Of n S A (drop m i):=fun x y hx ex=>by
     unfold drop at ex
     split at ex
     · cases ex
     · rename_i hne
       exact ⟨(ho x y hx ex).1.resolve_right hne,(ho x y hx ex).2⟩
   have hd:=drop_mt hm i
   cases e:m i with
   | none =>
     have:sumN n (gval g m)=sumN n (gval g (drop m i)):=sumN_congr fun x hx=>by
       unfold gval drop
       by_cases hx2:x=i
       · rw [if_pos hx2,hx2,e]
       · rw [if_neg hx2]
     have:=h.le _ hd hod
     omega
   | some k =>
     have hs:=drop_sum (g:=g) hi e
     have hk:=hm.lt i k hi e
     have hak:=(ho i k hi e).2
     by_cases hg:0≤g i k
     · have:=(hu k hk hak hg).le _ hd (fun x y hx ex=>⟨(hod x y hx ex).1,(hod x y hx ex).2,fun e2=>by
         unfold drop at ex
         split at ex
         · cases ex
         · rename_i hne;exact hne (hm.inj x i k hx hi (by rw [← e2];exact ex) e)⟩)
       have:=h2 k hk hak hg
       omega
     · have:=h.le _ hd hod
       omega
 · rcases h3 with rfl | ⟨k,hk,ha,hg,rfl⟩
   · obtain ⟨m,a,b,c⟩:=h.ex
     exact ⟨m,a,fun i y hi e=>⟨.inl (b i y hi e).1,(b i y hi e).2⟩,c⟩
   · obtain ⟨m,a,b,c⟩:=(hu k hk ha hg).ex
     have hmi:m i=.none:=Classical.byContradiction fun hn=>by
       obtain ⟨y,e⟩:=Option.ne_none_iff_exists'.1 hn
       exact hS (b i y hi e).1
     have hnu:¬ Used n m k:=fun ⟨x,hx,e⟩ => (b x k hx e).2.2 rfl
     obtain ⟨q1,_⟩:=a.give (E:=fun _ _=>True) (fun _ _ _ _=>trivial) i k hk hnu trivial
     refine ⟨_,q1,fun x y hx e => ?_,by rw [give_sum hi hmi,c]⟩
     try dsimp only at e
     split at e
     · rename_i ex;cases e;exact ⟨.inr ex,ha⟩
     · exact ⟨.inl (b x y hx e).1,(b x y hx e).2.1⟩
theorem IsG.mono {n K:Nat} {g:Nat→Nat→Int} {S A S' A':Nat→Prop} {w w':Int} (h:IsG n K g S A w) (h':IsG n K g S' A' w') (hS:∀ i,S i→S' i) (hA:∀ k,A k→A' k):w≤w':=by
 obtain ⟨m,a,b,c⟩:=h.ex
 have:=h'.le m a (fun i k hi e=>⟨hS i (b i k hi e).1,hA k (b i k hi e).2⟩)
 omega
theorem IsG.nonneg {n K:Nat} {g:Nat→Nat→Int} {S A:Nat→Prop} {w:Int} (h:IsG n K g S A w):0≤w :=
 (IsG.none (n:=n) (K:=K) (g:=g) (S:=fun _=>False) (A:=fun _=>False) (.inl fun _ _ h=>h)).mono h (fun _ h=>h.elim) (fun _ h=>h.elim)
end JM
end
section
namespace JM
open Classical
set_option linter.unusedVariables false
def gn (r:List Int) (b:List (List Int)) (i k:Nat):Int:=if b.getD i []=[] then -1 else (b.getD i []).getD k 0 - r.getD k 0
def ov (r P:List Int) (k:Nat):Int:=P.getD k 0 - r.getD k 0
def mo (has:List Int) (i:Nat):Option Nat:=if has.getD i (-1)<0 then none else some (has.getD i (-1)).toNat
theorem mo_some {has:List Int} {i k:Nat}:mo has i=some k↔has.getD i (-1)=(k:Int):=by
 unfold mo
 split
 · rename_i h;exact ⟨(fun e=>by cases e),fun e=>by omega⟩
 · rename_i h;exact ⟨(fun e=>by cases e;omega),fun e=>by rw [e];rfl⟩
theorem mo_none {has:List Int} {i:Nat}:mo has i=none↔has.getD i (-1)<0:=by
 unfold mo
 split
 · rename_i h;exact ⟨fun _=>h,fun _=>rfl⟩
 · rename_i h;exact ⟨(fun e=>by cases e),fun e=>absurd e h⟩
structure MkOk (r:List Int) (b:List (List Int)):Prop where
 hk:1≤r.length∧r.length≤8
 hn:1≤b.length∧b.length≤8
 hr:∀ k,k<r.length→0≤r.getD k 0∧r.getD k 0≤1000000
 hb:∀ i,i<b.length→b.getD i []≠[]→(b.getD i []).length=r.length∧∀ k,k<r.length→0≤(b.getD i []).getD k 0∧(b.getD i []).getD k 0≤1000000
structure OutOk (r:List Int) (b:List (List Int)) (has P:List Int):Prop where
 hl:has.length=b.length
 pl:P.length=r.length
 least:Leastp b.length r.length (gn r b) (ov r P)
 top:∀ k,k<r.length→P.getD k 0≤2000000
 low:∀ i,i<b.length→-1≤has.getD i (-1)
 mt:Mt b.length r.length (mo has)
 best:∀ w,IsBest b.length r.length (gn r b) w→sumN b.length (gval (gn r b) (mo has))=w
structure EvenP (r:List Int) (b:List (List Int)) (has P:List Int):Prop where
 hl:has.length=b.length
 pl:P.length=r.length
 low:∀ i,i<b.length→-1≤has.getD i (-1)
 mt:Mt b.length r.length (mo has)
 non:∀ i,i<b.length→b.getD i []=[]→has.getD i (-1) = -1
 now:∀ i,i<b.length→b.getD i []≠[]→0≤gval (fun i k=>(b.getD i []).getD k 0 - P.getD k 0) (mo has) i∧∀ k,k<r.length→(b.getD i []).getD k 0 - P.getD k 0≤gval (fun i k=>(b.getD i []).getD k 0 - P.getD k 0) (mo has) i
 p:∀ k,k<r.length→r.getD k 0≤P.getD k 0∧P.getD k 0≤2000000∧(Used b.length (mo has) k∨P.getD k 0=r.getD k 0)
structure PaidP (r:List Int) (b:List (List Int)) (has P:List Int) (s:Int):Prop where
 sold:∀ i k,i<b.length→mo has i=some k→∀ w',IsBest b.length r.length (fun x y=>if x=i then -1 else gn r b x y) w'→P.getD k 0=r.getD k 0+(w' - (s - gn r b i k))
 not:∀ k,k<r.length→¬ Used b.length (mo has) k→P.getD k 0=r.getD k 0
theorem best_ex (n K:Nat) (g:Nat→Nat→Int):∃ w,IsBest n K g w:=by
 have hB:∀ m,Mt n K m→sumN n (gval g m)≤sumN n fun i=>mx K (g i):=fun m hm=>sumN_le fun i hi=>by
   cases e:m i with
   | none=>rw [gval_none e];exact mx_nonneg _ _
   | some k=>rw [gval_some e];exact mx_ge (f:=g i) k (hm.lt i k hi e)
 have h0:Mt n K fun _=>none:=⟨(fun _ _ _ e=>by cases e),(fun _ _ _ _ _ e=>by cases e)⟩
 have hz:sumN n (gval g fun _=>none)=0:=(sumN_congr (g:=fun _=>0) fun i _=>rfl).trans (sumN_zero n)
 obtain ⟨m,hm,hmax⟩:=greatest (Mt n K) (fun m=>(sumN n (gval g m)).toNat) ((sumN n fun i=>mx K (g i)).toNat) (fun m hm=>by have:=hB m hm;omega) (fun _=>none) h0
 by_cases h:0≤sumN n (gval g m)
 · exact ⟨_,fun y hy=>by have:=hmax y hy;omega,m,hm,rfl⟩
 · exact ⟨0,fun y hy=>by have:=hmax y hy;omega,_,h0,hz⟩
theorem best_less {n K:Nat} {g:Nat→Nat→Int} {i0:Nat} {w w':Int} (hw:IsBest n K g w) (hw':IsBest n K (fun x y=>if x=i0 then -1 else g x y) w'):w'≤w:=by
 obtain ⟨m,h1,h2⟩:=hw'.ex
 have h3:=hw.le _ (drop_mt h1 i0)
 have h4:=sumN_le (n:=n) (f:=gval (fun x y=>if x=i0 then -1 else g x y) m) (g:=gval g (drop m i0)) (fun i hi=>by
   by_cases hii:i=i0
   · have e1:drop m i0 i=none:=by unfold drop;rw [if_pos hii]
     rw [gval_none e1]
     cases e:m i with
     | none=>rw [gval_none e];exact Int.le_refl _
     | some k=>rw [gval_some e];(try dsimp only);rw [if_pos hii];omega
   · have e1:drop m i0 i=m i:=by unfold drop;rw [if_neg hii]
     cases e:m i with
     | none=>rw [gval_none e,gval_none (e1.trans e)];exact Int.le_refl _
     | some k=>rw [gval_some e,gval_some (e1.trans e)];(try dsimp only);rw [if_neg hii];exact Int.le_refl _)
 omega
theorem best_others {n K:Nat} {g:Nat→Nat→Int} {i0:Nat} {w':Int} (hw':IsBest n K (fun x y=>if x=i0 then -1 else g x y) w') {m:Nat→Option Nat} (hm:Mt n K m) (hi:i0<n):sumN n (gval g m) - gval g m i0≤w':=by
 have h1:=hw'.le _ (drop_mt hm i0)
 have h2:sumN n (gval (fun x y=>if x=i0 then -1 else g x y) (drop m i0))=sumN n (gval g (drop m i0)):=sumN_congr fun i hi=>by
   by_cases hii:i=i0
   · have e1:drop m i0 i=none:=by unfold drop;rw [if_pos hii]
     rw [gval_none e1,gval_none e1]
   · cases e:drop m i0 i with
     | none=>rw [gval_none e,gval_none e]
     | some k=>rw [gval_some e,gval_some e];(try dsimp only);rw [if_neg hii]
 cases e:m i0 with
 | none =>
   have h3:sumN n (gval g (drop m i0))=sumN n (gval g m):=sumN_congr fun i hi=>by
     unfold gval drop
     by_cases hii:i=i0
     · rw [if_pos hii,hii,e]
     · rw [if_neg hii]
   rw [gval_none e];omega
 | some k =>
   have h3:=drop_sum (g:=g) hi e
   rw [gval_some e];omega
section
variable {r:List Int} {b:List (List Int)} {has P:List Int}
theorem gn_emp {i k:Nat} (h:b.getD i []=[]):gn r b i k = -1:=by unfold gn;rw [if_pos h]
theorem gn_bid {i k:Nat} (h:b.getD i []≠[]):gn r b i k=(b.getD i []).getD k 0 - r.getD k 0:=by unfold gn;rw [if_neg h]
theorem gn_ov {i k:Nat} (h:b.getD i []≠[]):gn r b i k - ov r P k=(b.getD i []).getD k 0 - P.getD k 0:=by rw [gn_bid h];unfold ov;omega
theorem OutOk.tight (h:OutOk r b has P):In b.length (dm r.length (gn r b) (ov r P)) (mo has)∧(∀ i,i<b.length→mo has i=none→ut r.length (gn r b) (ov r P) i=0)∧(∀ k,k<r.length→¬ Used b.length (mo has) k→ov r P k=0):=by
 obtain ⟨w,hw⟩:=best_ex b.length r.length (gn r b)
 exact h.least.tight hw h.mt (h.best w hw)
theorem OutOk.emp (h:OutOk r b has P) (i:Nat) (hi:i<b.length) (he:b.getD i []=[]):mo has i=none:=by
 apply Classical.byContradiction
 intro hn
 obtain ⟨k,e⟩:=Option.ne_none_iff_exists'.1 hn
 have hk:=h.mt.lt i k hi e
 have hd:=(h.tight.1 i k hi e).2
 have:=h.least.pos k hk
 have:=mx_nonneg r.length (fun k=>gn r b i k - ov r P k)
 rw [gn_emp he] at hd
 unfold ut at hd
 omega
theorem OutOk.hasv (h:OutOk r b has P) (i:Nat) (hi:i<b.length) (hb:b.getD i []≠[]):gval (fun i k=>(b.getD i []).getD k 0 - P.getD k 0) (mo has) i=ut r.length (gn r b) (ov r P) i:=by
 cases e:mo has i with
 | none=>rw [gval_none e,h.tight.2.1 i hi e]
 | some k=>rw [gval_some e];have:=(h.tight.1 i k hi e).2;rw [gn_ov hb] at this;exact this
theorem OutOk.even (h:OutOk r b has P):EvenP r b has P:=by
 refine ⟨h.hl,h.pl,h.low,h.mt,fun i hi he => ?_,fun i hi hb => ?_,fun k hk => ?_⟩
 · have h1:=mo_none.1 (h.emp i hi he)
   have:=h.low i hi
   omega
 · rw [h.hasv i hi hb]
   refine ⟨mx_nonneg _ _,fun k hk => ?_⟩
   have:gn r b i k - ov r P k≤ut r.length (gn r b) (ov r P) i:=mx_ge (f:=fun k=>gn r b i k - ov r P k) k hk
   rwa [gn_ov hb] at this
 · have h1:=h.least.pos k hk
   have h2:=h.top k hk
   unfold ov at h1
   refine ⟨by omega,h2,?_⟩
   by_cases hu:Used b.length (mo has) k
   · exact .inl hu
   · have:=h.tight.2.2 k hk hu
     unfold ov at this
     exact .inr (by omega)
theorem OutOk.paid (h:OutOk r b has P) {w:Int} (hw:IsBest b.length r.length (gn r b) w):PaidP r b has P w:=by
 refine ⟨fun i k hi e w' hw' => ?_,fun k hk hu => ?_⟩
 · have:=h.least.pays hw h.mt (h.best w hw) hi e hw'
   unfold ov at this
   omega
 · have:=h.tight.2.2 k hk hu
   unfold ov at this
   omega
theorem OutOk.adds (h:OutOk r b has P) {w w':Int} (hw:IsBest b.length r.length (gn r b) w) {i:Nat} (hi:i<b.length) (hw':IsBest b.length r.length (fun x y=>if x=i then -1 else gn r b x y) w'):ut r.length (gn r b) (ov r P) i=w - w':=by
 have h1:=best_less hw hw'
 cases e:mo has i with
 | none =>
   have h2:=best_others hw' h.mt hi
   rw [h.best w hw,gval_none e] at h2
   rw [h.tight.2.1 i hi e];omega
 | some k =>
   have h2:=h.least.pays hw h.mt (h.best w hw) hi e hw'
   have h3:=(h.tight.1 i k hi e).2
   omega
end
theorem honest {r:List Int} {b b2:List (List Int)} {has P has2 P2:List Int} {i:Nat} (h:OutOk r b has P) (h2:OutOk r b2 has2 P2) (hl:b2.length=b.length) (hi:i<b.length) (hb:b.getD i []≠[]) (hsame:∀ x,x≠i→b2.getD x []=b.getD x []) :
   gval (fun i k=>(b.getD i []).getD k 0 - P2.getD k 0) (mo has2) i≤gval (fun i k=>(b.getD i []).getD k 0 - P.getD k 0) (mo has) i:=by
 rw [h.hasv i hi hb]
 cases e:mo has2 i with
 | none=>rw [gval_none e];exact mx_nonneg _ _
 | some k =>
   rw [gval_some e]
   obtain ⟨w,hw⟩:=best_ex b.length r.length (gn r b)
   obtain ⟨w2,hw2⟩:=best_ex b2.length r.length (gn r b2)
   obtain ⟨w',hw'⟩:=best_ex b.length r.length (fun x y=>if x=i then -1 else gn r b x y)
   have hg:(fun x y=>if x=i then -1 else gn r b2 x y)=fun x y=>if x=i then -1 else gn r b x y:=by
     funext x y
     by_cases hx:x=i
     · rw [if_pos hx,if_pos hx]
     · rw [if_neg hx,if_neg hx];unfold gn;rw [hsame x hx]
   have hw2':IsBest b2.length r.length (fun x y=>if x=i then -1 else gn r b2 x y) w':=by rw [hg,hl];exact hw'
   have a1:=h.adds hw hi hw'
   have a2:=h2.least.pays hw2 h2.mt (h2.best w2 hw2) (by omega) e hw2'
   have a3:=h2.best w2 hw2
   have a4:=hw.le (mo has2) (by have:=h2.mt;rwa [hl] at this)
   have a5:sumN b.length (gval (gn r b) (mo has2))=sumN b2.length (gval (gn r b2) (mo has2))+(gn r b i k - gn r b2 i k):=by
     rw [hl,sumN_upd (f:=gval (gn r b) (mo has2)) (g:=gval (gn r b2) (mo has2)) i hi (fun x hx hne=>by
       cases ex:mo has2 x with
       | none=>rw [gval_none ex,gval_none ex]
       | some y=>rw [gval_some ex,gval_some ex];unfold gn;rw [hsame x hne]),gval_some e,gval_some e]
   have a6:=gn_bid (r:=r) (k:=k) hb
   unfold ov at a2
   omega
end JM
end
section
namespace JM
open Classical
set_option linter.unusedVariables false
structure Rise (n K:Nat) (g:Nat→Nat→Int) (p:Nat→Int):Prop where
 pos:∀ k,k<K→0≤p k
 le:∀ q:Nat→Int,(∀ k,k<K→0≤q k)→NoOver n K g q→∀ k,k<K→p k≤q k
 top:∀ k,k<K→p k=0∨∃ i,i<n∧p k≤g i k
theorem Rise.zero (n K:Nat) (g:Nat→Nat→Int) {p:Nat→Int} (h:∀ k,k<K→p k=0):Rise n K g p :=
 ⟨fun k hk=>by rw [h k hk];exact Int.le_refl _,fun q hq _ k hk=>by rw [h k hk];exact hq k hk,fun k hk=>.inl (h k hk)⟩
structure Far (n K:Nat) (g:Nat→Nat→Int) (p:Nat→Int) (S:Nat→Prop) (b:Int):Prop where
 le:∀ i,i<n→wt K g p S i→b≤ut K g p i∧∀ k,k<K→¬ S k→b≤ut K g p i - (g i k - p k)
 ex:∃ i,i<n∧wt K g p S i∧(b=ut K g p i∨∃ k,k<K∧¬ S k∧b=ut K g p i - (g i k - p k))
theorem Far.pos {n K:Nat} {g:Nat→Nat→Int} {p:Nat→Int} {S:Nat→Prop} {b:Int} (h:Far n K g p S b):1≤b:=by
 obtain ⟨i,hi,hw,e | ⟨k,hk,hs,e⟩⟩:=h.ex
 · have:=hw.1;unfold mst at this;omega
 · have:=slack hw hk hs;omega
theorem Rise.step {n K:Nat} {g:Nat→Nat→Int} {p p':Nat→Int} {S:Nat→Prop} {b:Int} (h:Rise n K g p) (hf:Few n K g p S) (hb:Far n K g p S b) (h1:∀ k,k<K→S k→p' k=p k+b) (h2:∀ k,k<K→¬ S k→p' k=p k):Rise n K g p':=by
 have hp:=hb.pos
 refine ⟨fun k hk => ?_,fun q hq hn k hk => ?_,fun k hk => ?_⟩
 · have:=h.pos k hk
   by_cases hs:S k
   · rw [h1 k hk hs];omega
   · rw [h2 k hk hs];omega
 · by_cases hs:S k
   · rw [h1 k hk hs];exact hf.below hb.le hn (fun k hk=>h.le q hq hn k hk) k hk hs
   · rw [h2 k hk hs];exact h.le q hq hn k hk
 · by_cases hs:S k
   · obtain ⟨i,hi,hw,hd⟩:=hf.wanted k hk hs
     have:=(hb.le i hi hw).1
     have:=hd.2
     exact .inr ⟨i,hi,by rw [h1 k hk hs];omega⟩
   · rw [h2 k hk hs];exact h.top k hk
theorem Rise.least {n K:Nat} {g:Nat→Nat→Int} {p:Nat→Int} (h:Rise n K g p) (hn:NoOver n K g p):Leastp n K g p:=⟨h.pos,hn,h.le⟩
theorem Rise.more {n K:Nat} {g:Nat→Nat→Int} {p p':Nat→Int} {S:Nat→Prop} {b:Int} (hf:Few n K g p S) (hb:Far n K g p S b) (h1:∀ k,k<K→S k→p' k=p k+b) (h2:∀ k,k<K→¬ S k→p' k=p k):sumN K p+1≤sumN K p':=by
 have hp:=hb.pos
 obtain ⟨i,hi,hw⟩:=hf.some
 obtain ⟨k0,hd⟩:=dm_some hw.1
 have hs:=hw.2 k0 hd.1 hd
 have e:=sumN_upd (f:=p') (g:=fun k=>if k=k0 then p k0 else p' k) k0 hd.1 (fun k hk hne=>by rw [if_neg hne])
 have e2:=sumN_le (n:=K) (f:=p) (g:=fun k=>if k=k0 then p k0 else p' k) (fun k hk=>by
   by_cases hk0:k=k0
   · rw [if_pos hk0,hk0];exact Int.le_refl _
   · rw [if_neg hk0]
     by_cases hsk:S k
     · rw [h1 k hk hsk];omega
     · rw [h2 k hk hsk];exact Int.le_refl _)
 rw [if_pos rfl] at e
 have:=h1 k0 hd.1 hs
 omega
def bit (s i:Nat):Prop:=s.testBit i=true
def mw (g:Nat→Nat→Int) (was:Nat→Int) (s k:Nat):Nat→Int
 | 0=>was s
 | i+1=>if s.testBit i=true∧0≤g i k then max (mw g was s k i) (was (s ^^^ 2 ^ i)+g i k) else mw g was s k i
theorem mw_spec (g:Nat→Nat→Int) (was:Nat→Int) (s k n:Nat):was s≤mw g was s k n∧(∀ i,i<n→bit s i→0≤g i k→was (s ^^^ 2 ^ i)+g i k≤mw g was s k n)∧(mw g was s k n=was s∨∃ i,i<n∧bit s i∧0≤g i k∧mw g was s k n=was (s ^^^ 2 ^ i)+g i k):=by
 induction n with
 | zero=>exact ⟨Int.le_refl _,fun i hi=>by omega,.inl rfl⟩
 | succ n ih =>
   obtain ⟨h1,h2,h3⟩:=ih
   simp only [mw]
   by_cases hc:s.testBit n=true∧0≤g n k
   · rw [if_pos hc]
     refine ⟨by omega,fun i hi hb hg => ?_,?_⟩
     · by_cases hin:i=n
       · subst hin;omega
       · have:=h2 i (by omega) hb hg;omega
     · by_cases hm:mw g was s k n≤was (s ^^^ 2 ^ n)+g n k
       · exact .inr ⟨n,by omega,hc.1,hc.2,by omega⟩
       · rcases h3 with e | ⟨i,hi,hb,hg,e⟩
         · exact .inl (by omega)
         · exact .inr ⟨i,by omega,hb,hg,by omega⟩
   · rw [if_neg hc]
     refine ⟨h1,fun i hi hb hg => ?_,?_⟩
     · by_cases hin:i=n
       · subst hin;exact absurd ⟨hb,hg⟩ hc
       · exact h2 i (by omega) hb hg
     · rcases h3 with e | ⟨i,hi,hb,hg,e⟩
       · exact .inl e
       · exact .inr ⟨i,by omega,hb,hg,e⟩
theorem bit_xor {s i j:Nat} (h:bit s i):bit (s ^^^ 2 ^ i) j↔bit s j∧j≠i:=by
 unfold bit at h ⊢
 rw [Nat.testBit_xor,Nat.testBit_two_pow]
 by_cases hj:j=i
 · subst hj;simp [h]
 · simp [hj,Ne.symm hj]
theorem IsG.mask {n K:Nat} {g:Nat→Nat→Int} {was:Nat→Int} {k:Nat} (hk:k<K) (h:∀ s,s<2 ^ n→IsG n K g (bit s) (fun x=>x<k) (was s)) (s:Nat) (hs:s<2 ^ n):IsG n K g (bit s) (fun x=>x<k+1) (mw g was s k n):=by
 obtain ⟨h1,h2,h3⟩:=mw_spec g was s k n
 have hx:∀ i,i<n→bit s i→s ^^^ 2 ^ i<2 ^ n:=fun i hi hb=>Nat.xor_lt_two_pow hs (Nat.pow_lt_pow_right (by decide) hi)
 refine (IsG.item (S:=bit s) (A:=fun x=>x<k) hk (Nat.lt_irrefl _) (h s hs) (fun i=>was (s ^^^ 2 ^ i)) (fun i hi hb _=>(h _ (hx i hi hb)).congr (fun j _=>bit_xor hb) (fun _ _=>Iff.rfl)) h1 (fun i hi hb hg=>h2 i hi hb hg) ?_).congr (fun _ _=>Iff.rfl) (fun x _=>⟨fun e=>by rcases e with e | e <;> omega,fun e=>by omega⟩)
 exact h3
theorem bit_full {n i:Nat} (hi:i<n):bit (2 ^ n - 1) i:=by
 unfold bit
 rw [Nat.testBit_two_pow_sub_one]
 simpa using hi
end JM
end
section
namespace JM
open Classical
set_option linter.unusedVariables false
def fk (f:Nat→Int) (v:Nat→Int) (T:Nat):Nat→Int
 | 0=>v T
 | k+1=>if 0≤f k∧T.testBit k=false then max (fk f v T k) (f k+v (T ||| 2 ^ k)) else fk f v T k
def fb (K:Nat) (g:Nat→Nat→Int):List Nat→Nat→Int
 | [],_=>0
 | i :: l,T=>fk (g i) (fb K g l) T K
theorem fk_spec (f v:Nat→Int) (T K:Nat):v T≤fk f v T K∧(∀ k,k<K→¬ bit T k→0≤f k→v (T ||| 2 ^ k)+f k≤fk f v T K)∧(fk f v T K=v T∨∃ k,k<K∧¬ bit T k∧0≤f k∧fk f v T K=v (T ||| 2 ^ k)+f k):=by
 induction K with
 | zero=>exact ⟨Int.le_refl _,fun i hi=>by omega,.inl rfl⟩
 | succ n ih =>
   obtain ⟨h1,h2,h3⟩:=ih
   simp only [fk]
   by_cases hc:0≤f n∧T.testBit n=false
   · rw [if_pos hc]
     have hb:¬ bit T n:=by unfold bit;rw [hc.2];decide
     refine ⟨by omega,fun i hi hb hg => ?_,?_⟩
     · by_cases hin:i=n
       · subst hin;omega
       · have:=h2 i (by omega) hb hg;omega
     · by_cases hm:fk f v T n≤f n+v (T ||| 2 ^ n)
       · exact .inr ⟨n,by omega,hb,hc.1,by omega⟩
       · rcases h3 with e | ⟨i,hi,hb,hg,e⟩
         · exact .inl (by omega)
         · exact .inr ⟨i,by omega,hb,hg,by omega⟩
   · rw [if_neg hc]
     refine ⟨h1,fun i hi hb hg => ?_,?_⟩
     · by_cases hin:i=n
       · subst hin;exact absurd ⟨hg,by unfold bit at hb;simpa using hb⟩ hc
       · exact h2 i (by omega) hb hg
     · rcases h3 with e | ⟨i,hi,hb,hg,e⟩
       · exact .inl e
       · exact .inr ⟨i,by omega,hb,hg,e⟩
theorem bit_or {s i j:Nat}:bit (s ||| 2 ^ i) j↔bit s j∨j=i:=by
 unfold bit
 rw [Nat.testBit_or,Nat.testBit_two_pow]
 by_cases hj:j=i
 · subst hj;simp
 · simp [hj,Ne.symm hj]
theorem fb_isG {n K:Nat} (g:Nat→Nat→Int) (l:List Nat) (hl:l.Nodup) (hn:∀ i ∈ l,i<n) (T:Nat):IsG n K g (· ∈ l) (fun k => ¬ bit T k) (fb K g l T):=by
 induction l generalizing T with
 | nil=>exact IsG.none (.inl fun i _ h=>by cases h)
 | cons i l ih =>
   have hnd:=List.nodup_cons.1 hl
   have hi:=ih hnd.2 (fun x hx=>hn x (List.mem_cons_of_mem _ hx))
   obtain ⟨h1,h2,h3⟩:=fk_spec (g i) (fb K g l) T K
   refine (IsG.bidder (S:=(· ∈ l)) (A:=fun k => ¬ bit T k) (hn i List.mem_cons_self) hnd.1 (hi T) (fun k=>fb K g l (T ||| 2 ^ k)) (fun k hk hb _=>(hi (T ||| 2 ^ k)).congr (fun _ _=>Iff.rfl) (fun x _=>⟨fun h=>⟨fun hx=>h (bit_or.2 (.inl hx)),fun hx=>h (bit_or.2 (.inr hx))⟩,fun h hx=>(bit_or.1 hx).elim h.1 h.2⟩)) h1 (fun k hk hb hg=>h2 k hk hb hg) h3).congr (fun x _=>⟨fun h=>by rcases h with h | h;exact List.mem_cons_of_mem _ h;rw [h];exact List.mem_cons_self,fun h=>(List.mem_cons.1 h).elim .inr .inl⟩) (fun _ _=>Iff.rfl)
structure Pick (n K:Nat) (g:Nat→Nat→Int) (W:Int) (l:List Nat) (T:Nat) (want:Int) (m:Nat→Option Nat):Prop where
 mt:Mt n K m
 of:∀ i k,i<n→m i=some k→i ∉ l∧bit T k
 we:want=fb K g l T
 sum:sumN n (gval g m)+want=W
theorem Pick.start {n K:Nat} {g:Nat→Nat→Int} {W:Int} {l:List Nat} (hl:l.Nodup) (hn:∀ i ∈ l,i<n) (ha:∀ i,i<n→i ∈ l) (hW:IsBest n K g W):Pick n K g W l 0 W (fun _=>none):=by
 have hz:sumN n (gval g fun _=>none)=0:=(sumN_congr (g:=fun _=>0) fun i _=>rfl).trans (sumN_zero n)
 have h:=(fb_isG (K:=K) g l hl hn 0).best ha (fun k _=>by unfold bit;simp)
 exact ⟨⟨(fun _ _ _ e=>by cases e),(fun _ _ _ _ _ e=>by cases e)⟩,(fun _ _ _ e=>by cases e),hW.uniq h,by rw [hz];omega⟩
theorem Pick.takes {n K:Nat} {g:Nat→Nat→Int} {W want:Int} {i:Nat} {l:List Nat} {T:Nat} {m:Nat→Option Nat} (h:Pick n K g W (i :: l) T want m) (hi:i<n) (hil:i ∉ l) {k:Nat} (hk:k<K) (hb:¬ bit T k) (he:g i k+fb K g l (T ||| 2 ^ k)=want):Pick n K g W l (T ||| 2 ^ k) (want - g i k) (fun x=>if x=i then some k else m x):=by
 have hmi:m i=none:=Classical.byContradiction fun hn=>by
   obtain ⟨y,e⟩:=Option.ne_none_iff_exists'.1 hn
   exact (h.of i y hi e).1 List.mem_cons_self
 have hnu:¬ Used n m k:=fun ⟨x,hx,e⟩ => hb (h.of x k hx e).2
 obtain ⟨q1,_⟩:=h.mt.give (E:=fun _ _=>True) (fun _ _ _ _=>trivial) i k hk hnu trivial
 refine ⟨q1,fun x y hx e => ?_,by omega,by rw [give_sum hi hmi];have:=h.sum;omega⟩
 try dsimp only at e
 split at e
 · rename_i ex;cases e;exact ⟨by rw [ex];exact hil,bit_or.2 (.inr rfl)⟩
 · exact ⟨fun hm=>(h.of x y hx e).1 (List.mem_cons_of_mem _ hm),bit_or.2 (.inl (h.of x y hx e).2)⟩
theorem Pick.none {n K:Nat} {g:Nat→Nat→Int} {W want:Int} {i:Nat} {l:List Nat} {T:Nat} {m:Nat→Option Nat} (h:Pick n K g W (i :: l) T want m) (hno:∀ k,k<K→¬ bit T k→0≤g i k→g i k+fb K g l (T ||| 2 ^ k)≠want):Pick n K g W l T want m:=by
 refine ⟨h.mt,fun x y hx e=>⟨fun hm=>(h.of x y hx e).1 (List.mem_cons_of_mem _ hm),(h.of x y hx e).2⟩,?_,h.sum⟩
 obtain ⟨_,_,h3⟩:=fk_spec (g i) (fb K g l) T K
 have e0:want=fk (g i) (fb K g l) T K:=h.we
 rcases h3 with e | ⟨k,hk,hb,hg,e⟩
 · omega
 · exact absurd (by omega) (hno k hk hb hg)
theorem Pick.done {n K:Nat} {g:Nat→Nat→Int} {W want:Int} {T:Nat} {m:Nat→Option Nat} (h:Pick n K g W [] T want m):sumN n (gval g m)=W:=by
 have h1:want=0:=h.we
 have:=h.sum
 omega
end JM
end
end Go.Proofs.YtmmmjohoihpbeaaGreat
