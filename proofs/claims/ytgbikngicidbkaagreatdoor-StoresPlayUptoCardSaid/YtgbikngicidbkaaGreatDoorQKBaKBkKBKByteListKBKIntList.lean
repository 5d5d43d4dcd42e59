/- A book of lists of four kinds,in memory: what it says,and what leaves it be;conditions: those typed. -/
import Derived.Test.YtgbikngicidbkaaGreatDoorQGHeapBFz
import Derived.Deep.MidRow
import Derived.Deep.RegionHeld3
import Derived.Deep.RegionLaw
namespace Go.Proofs.YtgbikngicidbkaaGreatDoor
open Go.RowKit
set_option linter.unusedVariables false
set_option linter.unusedSimpArgs false
set_option maxRecDepth 100000
inductive Kd where
 | byte | int | il | bl
def Kd.el:Kd→TypeId
 | .byte=>5 | .int=>3 | .il=>22 | .bl=>24
def Kd.ls:Kd→TypeId
 | .byte=>24 | .int=>22 | .il=>82 | .bl=>23
def Kd.hd:Kd→TypeId
 | .byte=>170 | .int=>168 | .il=>177 | .bl=>180
def Kd.hs:Kd→TypeId
 | .byte=>46 | .int=>47 | .il=>49 | .bl=>50
def Kd.ix:Kd→Nat
 | .byte=>1 | .int=>2 | .il=>4 | .bl=>5
def Kd.sz:Kd→Nat
 | .byte=>1 | .int=>8 | .il=>24 | .bl=>24
def Kd.z:Kd→Value
 | .byte=>.int .u8 0 | .int=>.int .i64 0 | .il=>.slice none 0 0 | .bl=>.slice none 0 0
def updK {α:Type} (H:Kd→α):Kd→α→Kd→α
 | .byte,v,.byte=>v
 | .int,v,.int=>v
 | .il,v,.il=>v
 | .bl,v,.bl=>v
 | _,_,k=>H k
theorem updK_self {α:Type} (H:Kd→α) (κ:Kd) (v:α):updK H κ v κ=v:=by cases κ <;> rfl
theorem updK_ne {α:Type} (H:Kd→α) (κ κ':Kd) (v:α) (h:κ'≠κ):updK H κ v κ'=H κ':=by cases κ <;> cases κ' <;> first | rfl | exact absurd rfl h
theorem Kd.types (κ κ':Kd):κ.hd≠κ'.el∧κ.hd≠56∧κ.el≠56∧(κ≠κ'→κ.hd≠κ'.hd∧κ.el≠κ'.el):=by
 cases κ <;> cases κ' <;> exact ⟨by decide,by decide,by decide,fun h=>by first | exact absurd rfl h | exact ⟨by decide,by decide⟩⟩
theorem Kd.dec (κ κ':Kd):κ=κ'∨κ≠κ':=by cases κ <;> cases κ' <;> first | exact .inl rfl | exact .inr (by intro e;cases e)
theorem infoH (κ:Kd):(Tryz.prog.info? κ.hd).map (fun i=>(i.zero,i.size,i.bytes))=some (some (.agg #[.slice none 0 0,.slice none 0 0,.int .i64 0]),3,56):=by cases κ <;> kernel_rfl
theorem rowH (κ:Kd):RowTy Tryz.prog κ.hs κ.hd 3 56 (.agg #[.slice none 0 0,.slice none 0 0,.int .i64 0]):=⟨by cases κ <;> kernel_rfl,infoH κ,rfl,by decide⟩
theorem rowE (κ:Kd):RowTy Tryz.prog κ.ls κ.el 1 κ.sz κ.z:=⟨by cases κ <;> kernel_rfl,by cases κ <;> kernel_rfl,by cases κ <;> rfl,by cases κ <;> decide⟩
theorem infoH3 (κ:Kd):(Tryz.prog.info? κ.hd).map (·.size)=some 3:=by cases κ <;> kernel_rfl
structure Hd where
 a:Option Addr
 n:Nat
 c:Nat
def Hd.val (h:Hd):Value:=.slice h.a h.n h.c
structure Hl where
 l:Hd
 g:Hd
 m:Nat
def Hl.cells (x:Hl):List Value:=[x.l.val,x.g.val,.int .i64 x.m]
def hcells (H:List Hl):List Value:=H.flatMap Hl.cells
theorem hcells_length (H:List Hl):(hcells H).length=H.length*3:=by
 induction H with
 | nil=>rfl
 | cons x H ih=>show (x.cells ++ hcells H).length=_;rw [List.length_append,ih];show 3+H.length*3=(H.length+1)*3;omega
theorem hcells_get (H:List Hl) (i:Nat) (hi:i<H.length) (j:Nat) (hj:j<3):(hcells H)[3*i+j]?=(H[i].cells)[j]?:=by
 induction H generalizing i with
 | nil=>simp at hi
 | cons x H ih =>
   show (x.cells ++ hcells H)[3*i+j]?=_
   have hx:x.cells.length=3:=rfl
   cases i with
   | zero=>rw [List.getElem?_append_left (by omega)];simp
   | succ i =>
     rw [List.getElem?_append_right (by omega),hx,show 3*(i+1)+j - 3=3*i+j by omega,ih i (by simpa using hi)]
     rfl
theorem hcells_snoc (H:List Hl) (x:Hl):hcells (H ++ [x])=hcells H ++ x.cells:=by unfold hcells;simp
theorem hcells_set (H:List Hl) (i:Nat) (hi:i<H.length) (g:Hd):hcells (H.set i { H[i] with g:=g })=(hcells H).set (3*i+1) g.val:=by
 induction H generalizing i with
 | nil=>simp at hi
 | cons x H ih =>
   cases i with
   | zero=>rfl
   | succ i =>
     have hi':i<H.length:=by simpa using hi
     show x.cells ++ hcells (H.set i _)=(x.cells ++ hcells H).set (3*(i+1)+1) g.val
     have e:=ih i hi'
     rw [List.set_append_right _ _ (by show 3≤_;omega)]
     rw [show 3*(i+1)+1 - x.cells.length=3*i+1 by show 3*(i+1)+1 - 3=_;omega,← e]
     rfl
def mk (m:Nat):UInt8:=UInt8.ofNat m
theorem mk_eq (m:Nat):((m:Int) % 256)=((mk m).toNat:Int):=by simp [mk]
def Good:Kd→Nat→World→Nat→Value→Prop
 | .byte,_,_,m,v=>v=.int .u8 (mk m).toNat
 | .int,_,_,m,v=>v=.int .i64 (-(m:Int))
 | .il,F,w,m,v => ∃ g,v=.slice (some ⟨g,0,none⟩) 1 1∧F≤g∧w.heap[g]?=some (.cells #[.int .i64 m] 3 (0,0))
 | .bl,F,w,m,v => ∃ g,v=.slice (some ⟨g,0,none⟩) 1 1∧F≤g∧w.heap[g]?=some (.cells #[.int .u8 (mk m).toNat] 5 (0,0))
theorem Good.touch {κ:Kd} {F:Nat} {w w':World} {m:Nat} {v:Value} {S:Nat→Prop} (h:Good κ F w m v) (ht:Touch S w w') (hs:∀ k,S k→k<F):Good κ F w' m v:=by
 cases κ with
 | byte=>exact h
 | int=>exact h
 | il=>obtain ⟨g,h1,h2,h3⟩:=h;exact ⟨g,h1,h2,ht.heap h3 (fun e=>by have:=hs g e;omega)⟩
 | bl=>obtain ⟨g,h1,h2,h3⟩:=h;exact ⟨g,h1,h2,ht.heap h3 (fun e=>by have:=hs g e;omega)⟩
theorem Good.own {κ:Kd} {F:Nat} {w w':World} {m g:Nat} {v:Value} (h:Good κ F w m v) (ht:Touch (fun k=>k=g) w w') {cur:Array Value} {fz:Nat × Nat} (hg:w.heap[g]?=some (.cells cur κ.el fz)):Good κ F w' m v:=by
 cases κ with
 | byte=>exact h
 | int=>exact h
 | il =>
   obtain ⟨g',h1,h2,h3⟩:=h
   refine ⟨g',h1,h2,ht.heap h3 (fun e => ?_)⟩
   rw [e,hg] at h3
   have:=(Obj.cells.inj (Option.some.inj h3)).2.1
   revert this;decide
 | bl =>
   obtain ⟨g',h1,h2,h3⟩:=h
   refine ⟨g',h1,h2,ht.heap h3 (fun e => ?_)⟩
   rw [e,hg] at h3
   have:=(Obj.cells.inj (Option.some.inj h3)).2.1
   revert this;decide
theorem Good.below {κ:Kd} {F:Nat} {w w':World} {m:Nat} {v:Value} (h:Good κ F w m v) (hb:Below w.heap.size w w'):Good κ F w' m v:=h.touch (Touch.of_below (S:=fun _=>False) hb) (fun _ h=>h.elim)
theorem Good.one {κ:Kd} {F:Nat} {w:World} {m:Nat} {v:Value} (h:Good κ F w m v):v.oneCell'=true:=by
 cases κ with
 | byte=>cases h;rfl
 | int=>cases h;rfl
 | il=>obtain ⟨g,h1,_⟩:=h;subst h1;rfl
 | bl=>obtain ⟨g,h1,_⟩:=h;subst h1;rfl
theorem heap_set_fz (w:World) (g k:Nat) (cur:Array Value) (t:TypeId) (fz:Nat × Nat) (v:Value) (h:w.heap[g]?=some (.cells cur t fz)):(w.setCell ⟨g,k,none⟩ v).heap[g]?=some (.cells (cur.setIfInBounds k v) t fz):=by
 have hlt:g<w.heap.size:=(Array.getElem?_eq_some_iff.1 h).1
 have hv:w.heap[g]=.cells cur t fz:=(Array.getElem?_eq_some_iff.1 h).2
 unfold World.setCell
 rw [Array.getElem?_eq_getElem (by simpa using hlt),Array.getElem_modify]
 simp [hv]
def SK (e:TypeId) (w:World) (a:Option Addr) (n c:Nat) (cur:List Value):Prop :=
 (a=none∧n=0∧c=0∧cur=[])∨∃ g,a=some ⟨g,0,none⟩∧(∃ fz:Nat × Nat,w.heap[g]?=some (.cells cur.toArray e fz)∧(fz=(0,0)∨cur.length≤fz.1))∧n≤c∧c≤cur.length∧c≤maxLen
theorem SK.touch {e:TypeId} {S:Nat→Prop} {w w':World} {a:Option Addr} {n c:Nat} {cur:List Value} (h:SK e w a n c cur) (ht:Touch S w w') (hs:∀ g,a=some ⟨g,0,none⟩→¬ S g):SK e w' a n c cur:=by
 rcases h with h | ⟨g,rfl,⟨fz,hg,hz⟩,h1,h2,h3⟩
 · exact .inl h
 · exact .inr ⟨g,rfl,⟨fz,ht.heap hg (hs g rfl),hz⟩,h1,h2,h3⟩
def HOk (κ:Kd) (w:World) (B:Nat) (h:Hd):Prop:=∃ cur,SK κ.el w h.a h.n h.c cur∧∀ g,h.a=some ⟨g,0,none⟩→B≤g
theorem HOk.touch {κ:Kd} {S:Nat→Prop} {w w':World} {B:Nat} {h:Hd} (hh:HOk κ w B h) (ht:Touch S w w') (hs:∀ g,h.a=some ⟨g,0,none⟩→¬ S g):HOk κ w' B h:=by
 obtain ⟨cur,h1,h2⟩:=hh
 exact ⟨cur,h1.touch ht hs,h2⟩
theorem HOk.block {κ:Kd} {w:World} {B:Nat} {h:Hd} (hh:HOk κ w B h) {g:Nat} (hg:h.a=some ⟨g,0,none⟩):∃ C:Array Value × Nat × Nat,w.heap[g]?=some (.cells C.1 κ.el C.2)∧B≤g:=by
 obtain ⟨cur,s,hB⟩:=hh
 rcases s with ⟨s,_⟩ | ⟨g',s,⟨fz,hc,_⟩,_⟩
 · rw [s] at hg;cases hg
 · rw [s] at hg;cases hg;exact ⟨⟨_,fz⟩,hc,hB g s⟩
theorem HOk.at {κ:Kd} {w:World} {B:Nat} {h:Hd} (hh:HOk κ w B h) (k:Nat) (hk:k<h.n):∃ g,∃ C:Array Value × Nat × Nat,h.a=some ⟨g,0,none⟩∧w.heap[g]?=some (.cells C.1 κ.el C.2)∧k<C.1.size∧B≤g∧w.frozen? ⟨g,k,none⟩=false:=by
 obtain ⟨cur,h1,h2⟩:=hh
 rcases h1 with ⟨_,h1,_⟩ | ⟨g,h1,⟨fz,hc,hz⟩,h3,h4,_⟩
 · omega
 · refine ⟨g,⟨_,fz⟩,h1,hc,by simp;omega,h2 g h1,?_⟩
   rcases hz with rfl | hz
   · simp [World.frozen?,hc]
   · obtain ⟨lo,hi⟩:=fz
     dsimp only at hz
     simp [World.frozen?,hc]
     omega
theorem HOk.len {κ:Kd} {w:World} {B:Nat} {h:Hd} (hh:HOk κ w B h):h.n≤maxLen:=by
 obtain ⟨cur,s,_⟩:=hh
 rcases s with ⟨_,s,_⟩ | ⟨_,_,_,s4,s5,s6⟩
 · rw [s];exact Nat.zero_le _
 · exact Nat.le_trans s4 s6
def HFill (κ:Kd) (F:Nat) (w:World) (h:Hd) (m:Nat):Prop:=∀ i,i<h.n→∃ g v,h.a=some ⟨g,0,none⟩∧w.cell? ⟨g,i,none⟩=some v∧Good κ F w m v
theorem HFill.touch {κ:Kd} {F:Nat} {S:Nat→Prop} {w w':World} {h:Hd} {m:Nat} (hh:HFill κ F w h m) (ht:Touch S w w') (h1:∀ g,h.a=some ⟨g,0,none⟩→¬ S g) (h2:∀ v,Good κ F w m v→Good κ F w' m v):HFill κ F w' h m:=fun i hi=>by
 obtain ⟨g,v,e,hc,hv⟩:=hh i hi
 exact ⟨g,v,e,ht.cell hc (h1 g e),h2 v hv⟩
theorem HFill.below {κ:Kd} {F:Nat} {w w':World} {y:Hd} {m:Nat} (h:HFill κ F w y m) (hb:Below w.heap.size w w'):HFill κ F w' y m :=
 h.touch (Touch.of_below (S:=fun _=>False) hb) (fun _ _=>id) (fun v hv=>hv.below hb)
def bookC (N:Nat) (bs:Kd→Value):Array Value:=#[.int .i64 N,bs .byte,bs .int,.slice none 0 0,bs .il,bs .bl,.slice none 0 0,.slice none 0 0,.slice none 0 0,.slice none 0 0]
structure Part (κ:Kd) (w:World) (B:Nat) (bs:Value) (H:List Hl):Prop where
 row:w.ownsRow B κ.hd 3 bs H.length (hcells H)
 ok:∀ i (h:i<H.length),HOk κ w B H[i].l
 apart:∀ i j (hi:i<H.length) (hj:j<H.length),i≠j→∀ g,H[i].l.a=some ⟨g,0,none⟩→H[j].l.a≠some ⟨g,0,none⟩
 num:∀ i (h:i<H.length),H[i].m<4611686018427387904
 few:H.length≤1000000
structure Bk (w:World) (B bk:Nat) (N:Nat) (bs:Kd→Value) (H:Kd→List Hl):Prop where
 le:B≤bk
 book:w.heap[bk]?=some (.cells (bookC N bs) 56 (0,0))
 part:∀ κ,Part κ w B (bs κ) (H κ)
theorem Part.touch {κ:Kd} {S:Nat→Prop} {w w':World} {B:Nat} {bs:Value} {H:List Hl} (h:Part κ w B bs H) (ht:Touch S w w') (hs:∀ k,S k→∀ cur t fz,w.heap[k]?=some (.cells cur t fz)→t≠κ.el∧t≠κ.hd):Part κ w' B bs H:=by
 refine ⟨owns_touch h.row ht (fun k hk e => ?_),fun i hi=>(h.ok i hi).touch ht (fun g hg e => ?_),h.apart,h.num,h.few⟩
 · obtain ⟨cur,hc⟩:=owns_block h.row hk
   exact (hs k e _ _ _ hc).2 rfl
 · obtain ⟨cur,hc,_⟩:=(h.ok i hi).block hg
   exact (hs g e _ _ _ hc).1 rfl
def Other (w:World) (S:Nat→Prop):Prop:=∀ k,S k→∀ cur t fz,w.heap[k]?=some (.cells cur t fz)→(∀ κ:Kd,t≠κ.el∧t≠κ.hd)∧t≠56
theorem Bk.touch {S:Nat→Prop} {w w':World} {B bk:Nat} {N:Nat} {bs:Kd→Value} {H:Kd→List Hl} (h:Bk w B bk N bs H) (ht:Touch S w w') (hs:Other w S):Bk w' B bk N bs H :=
 ⟨h.le,ht.heap h.book (fun e=>(hs bk e _ _ _ h.book).2 rfl),fun κ=>(h.part κ).touch ht (fun k hk cur t fz hc=>(hs k hk cur t fz hc).1 κ)⟩
theorem Bk.below {w w':World} {B bk:Nat} {N:Nat} {bs:Kd→Value} {H:Kd→List Hl} (h:Bk w B bk N bs H) (hb:Below w.heap.size w w'):Bk w' B bk N bs H:=h.touch (Touch.of_below (S:=fun _=>False) hb) (fun _ h=>h.elim)
theorem Bk.cell {w:World} {B bk N:Nat} {bs:Kd→Value} {H:Kd→List Hl} (h:Bk w B bk N bs H) (κ:Kd):w.cell? ⟨bk,κ.ix,none⟩=some (bs κ):=by rw [cell_of_block h.book];cases κ <;> rfl
theorem Bk.frozen {w:World} {B bk N:Nat} {bs:Kd→Value} {H:Kd→List Hl} (h:Bk w B bk N bs H) (i:Nat):w.frozen? ⟨bk,i,none⟩=false:=by simp [World.frozen?,h.book]
theorem Bk.lt {w:World} {B bk N:Nat} {bs:Kd→Value} {H:Kd→List Hl} (h:Bk w B bk N bs H):B≤w.heap.size:=Nat.le_trans h.le (Nat.le_of_lt (lt_of_heap h.book))
theorem blk_frozen {w:World} {bk i:Nat} {C:Array Value} {t:TypeId} (h:w.heap[bk]?=some (.cells C t (0,0))):w.frozen? ⟨bk,i,none⟩=false:=by simp [World.frozen?,h]
theorem ty_ne {w:World} {g h:Nat} {C D:Array Value} {t u:TypeId} {f1 f2:Nat × Nat} (hg:w.heap[g]?=some (.cells C t f1)) (hh:w.heap[h]?=some (.cells D u f2)) (hne:t≠u):g≠h:=fun e=>by
 rw [e,hh] at hg
 exact hne (Obj.cells.inj (Option.some.inj hg)).2.1.symm
def LS (L:List Hl) (k:Nat):Prop:=∃ i,∃ h:i<L.length,L[i].l.a=some ⟨k,0,none⟩
theorem Part.ls {κ:Kd} {w:World} {B k:Nat} {bs:Value} {H:List Hl} (h:Part κ w B bs H) (hk:LS H k):∃ C:Array Value × Nat × Nat,w.heap[k]?=some (.cells C.1 κ.el C.2)∧B≤k:=by
 obtain ⟨i,hi,e⟩:=hk
 exact (h.ok i hi).block e
theorem Part.row_at {κ:Kd} {w:World} {B:Nat} {bs:Value} {H:List Hl} (h:Part κ w B bs H) (hn:0<H.length):∃ gr c cur,bs=.slice (some ⟨gr,0,none⟩) H.length c∧H.length≤c∧c≤maxLen∧w.heap[gr]?=some (.cells cur κ.hd (0,0))∧B≤gr∧∀ j (hj:j<H.length),w.rangeAt gr (j*3) H[j].cells:=by
 rcases h.row.2 with ⟨_,h0⟩ | ⟨gr,c,cur,hv,hB,hg,hnc,hcm,hcs,htk⟩
 · omega
 · refine ⟨gr,c,cur,hv,hnc,hcm,hg,hB,fun j hj x v hx => ?_⟩
   rw [cell_of_block hg]
   have hx3:x<3:=by have:=(List.getElem?_eq_some_iff.1 hx).1;exact this
   have e:(cur.toList.take (H.length*3))[j*3+x]?=some v:=by
     rw [htk,Nat.mul_comm j 3,hcells_get H j hj x hx3];exact hx
   rw [List.getElem?_take] at e
   split at e
   · simpa using e
   · cases e
theorem Part.store {κ:Kd} {w:World} {B:Nat} {bs:Value} {H:List Hl} (h:Part κ w B bs H) (j:Nat) (hj:j<H.length) (k g:Nat) (hk:k<H[j].l.n) (hg:H[j].l.a=some ⟨g,0,none⟩) (v:Value):Part κ (w.setCell ⟨g,k,none⟩ v) B bs H:=by
 obtain ⟨g',cur,e1,hc,hkc,hB,_⟩:=(h.ok j hj).at k hk
 rw [hg] at e1
 cases e1
 have ht:Touch (fun x=>x=g) w (w.setCell ⟨g,k,none⟩ v):=(Touch.refl _ _).setCell _ _ (.inl rfl)
 refine ⟨owns_touch h.row ht (fun x hx e => ?_),fun i hi => ?_,h.apart,h.num,h.few⟩
 · obtain ⟨cur2,hc2⟩:=owns_block h.row hx
   exact ty_ne hc2 hc (κ.types κ).1 e
 · by_cases hij:i=j
   · subst hij
     obtain ⟨cur3,s1,s2⟩:=h.ok i hi
     rcases s1 with ⟨s1,_⟩ | ⟨g3,s1,⟨fz3,hc3,hz3⟩,s4,s5,s6⟩
     · rw [hg] at s1;cases s1
     · rw [hg] at s1;cases s1
       rw [hc] at hc3
       refine ⟨cur3.set k v,.inr ⟨g,hg,⟨fz3,?_,by simpa using hz3⟩,s4,by simpa using s5,s6⟩,s2⟩
       rw [heap_set_fz _ _ _ _ _ _ _ hc]
       obtain ⟨cur,fz⟩:=cur
       dsimp only at hc3
       have h1:cur=cur3.toArray:=(Obj.cells.inj (Option.some.inj hc3)).1
       have h2:fz=fz3:=(Obj.cells.inj (Option.some.inj hc3)).2.2
       subst h1
       subst h2
       simp
   · exact (h.ok i hi).touch ht (fun x hx e=>h.apart j i hj hi (Ne.symm hij) g hg (by rw [hx,e]))
theorem Bk.others {κ:Kd} {w w':World} {B bk N:Nat} {bs:Kd→Value} {H:Kd→List Hl} {S:Nat→Prop} (h:Bk w B bk N bs H) (ht:Touch S w w') (hs:∀ k,S k→∃ cur t fz,w.heap[k]?=some (.cells cur t fz)∧(t=κ.el∨t=κ.hd)) {L:List Hl} {v:Value} (hv:v=bs κ) (hp:Part κ w' B v L):Bk w' B bk N bs (updK H κ L):=by
 subst hv
 refine ⟨h.le,ht.heap h.book (fun e => ?_),fun κ' => ?_⟩
 · obtain ⟨cur,t,fz,hc,ht⟩:=hs bk e
   rw [h.book] at hc
   have e2:=(Obj.cells.inj (Option.some.inj hc)).2.1
   rcases ht with ht | ht
   · exact (κ.types κ).2.2.1 (ht.symm.trans e2.symm)
   · exact (κ.types κ).2.1 (ht.symm.trans e2.symm)
 · rcases Kd.dec κ' κ with e | e
   · subst e;rw [updK_self];exact hp
   · rw [updK_ne _ _ _ _ e]
     refine (h.part κ').touch ht (fun k hk cur t fz hc => ?_)
     obtain ⟨cur2,t2,fz2,hc2,ht2⟩:=hs k hk
     rw [hc] at hc2
     have e2:=(Obj.cells.inj (Option.some.inj hc2)).2.1
     rw [e2]
     have q1:=κ.types κ'
     have q2:=κ'.types κ
     rcases ht2 with ht2 | ht2
     · rw [ht2];exact ⟨(q1.2.2.2 (Ne.symm e)).2,fun e3=>q2.1 e3.symm⟩
     · rw [ht2];exact ⟨q1.1,(q1.2.2.2 (Ne.symm e)).1⟩
theorem updK_same {α:Type} (H:Kd→α) (κ:Kd):updK H κ (H κ)=H:=funext fun k=>by
 rcases Kd.dec k κ with e | e
 · subst e;exact updK_self _ _ _
 · exact updK_ne _ _ _ _ e
def BkS (w:World) (B k:Nat):Prop:=B≤k∧∃ cur t fz,w.heap[k]?=some (.cells cur t fz)∧(t=56∨∃ κ:Kd,t=κ.hd)
theorem At.row3 (w:World) (u v x:Value) (e:TypeId):At (w.alloc (.cells #[u,v,x] e)) (some ⟨w.heap.size,0,none⟩) [u,v,x]:=At.of_cells fun j hj=>by
 rw [cell_of_block (heap_new w _),Nat.zero_add]
 simp at hj
 match j,hj with
 | 0,_=>rfl
 | 1,_=>rfl
 | 2,_=>rfl
theorem one3 (a:Option Addr) (n c:Nat) (x:Int):∀ u ∈ [Value.slice a n c,.slice none 0 0,.int .i64 x],u.oneCell'=true:=by intro v hv;simp at hv;rcases hv with rfl | rfl | rfl <;> rfl
theorem Part.below {κ:Kd} {w w':World} {B:Nat} {bs:Value} {H:List Hl} (h:Part κ w B bs H) (hb:Below w.heap.size w w'):Part κ w' B bs H:=h.touch (Touch.of_below (S:=fun _=>False) hb) (fun _ h=>h.elim)
theorem bk_keep_end {κ:Kd} {w w1 w8:World} {B bk N:Nat} {bs:Kd→Value} {bo b8:Option Addr} {bc c8:Nat} {H:Kd→List Hl} {x:Hd} (h:Bk w B bk N bs H) (hbs:bs κ=.slice bo (H κ).length bc) (hx:HOk κ w B x) (hap:∀ i (hi:i<(H κ).length),∀ g,(H κ)[i].l.a=some ⟨g,0,none⟩→x.a≠some ⟨g,0,none⟩) (hN:N<1000000) (hH:(H κ).length<1000000)
   (ht1:Touch (fun k=>k=bk) w w1) (ht8:Touch (fun k=>(Value.slice bo (H κ).length bc).ownBlock=some k) w1 w8) (hb8:w8.heap[bk]?=some (.cells (bookC (N+1) bs) 56 (0,0)))
   (hown:w8.ownsRow B κ.hd 3 (.slice b8 ((H κ).length+1) c8) ((H κ).length+1) (hcells (H κ) ++ [.slice x.a x.n x.c,.slice none 0 0,.int .i64 ((N:Int)+1)])) :
   Touch (BkS w B) w (w8.setCell ⟨bk,κ.ix,none⟩ (.slice b8 ((H κ).length+1) c8))∧Bk (w8.setCell ⟨bk,κ.ix,none⟩ (.slice b8 ((H κ).length+1) c8)) B bk (N+1) (updK bs κ (.slice b8 ((H κ).length+1) c8)) (updK H κ (H κ ++ [⟨x,⟨none,0,0⟩,N+1⟩])):=by
 have hP:=h.part κ
 rw [hbs] at hP
 have hbkS:BkS w B bk:=⟨h.le,_,_,_,h.book,.inl rfl⟩
 have hrow:∀ k,(Value.slice bo (H κ).length bc).ownBlock=some k→B≤k∧∃ cur,w.heap[k]?=some (.cells cur κ.hd):=fun k hk=>⟨(hP.row.lt k hk).1,owns_block hP.row hk⟩
 have hrowS:∀ k,(Value.slice bo (H κ).length bc).ownBlock=some k→BkS w B k:=fun k hk=>by
   obtain ⟨h1,cur,hc⟩:=hrow k hk
   exact ⟨h1,cur,_,_,hc,.inr ⟨κ,rfl⟩⟩
 obtain ⟨W,hW⟩:∃ W,W=w8.setCell ⟨bk,κ.ix,none⟩ (.slice b8 ((H κ).length+1) c8):=⟨_,rfl⟩
 have ht9:Touch (fun k=>k=bk) w8 W:=by rw [hW];exact (Touch.refl _ _).setCell _ _ (.inl rfl)
 have hT0:Touch (fun k=>k=bk∨(Value.slice bo (H κ).length bc).ownBlock=some k) w W :=
   ((ht1.weaken (fun k _ hk=>.inl hk)).trans (ht8.weaken (fun k _ hk=>.inr hk))).trans (ht9.weaken (fun k _ hk=>.inl hk))
 have hT:Touch (BkS w B) w W:=hT0.weaken (fun k _ hk=>by
   rcases hk with hk | hk
   · rw [hk];exact hbkS
   · exact hrowS k hk)
 have hel:∀ (κ':Kd) {y:Hd},HOk κ' w B y→HOk κ' W B y:=fun κ' {y} hy=>hy.touch hT0 (fun g hg e=>by
   obtain ⟨cur,hc,_⟩:=hy.block hg
   rcases e with e | e
   · exact ty_ne hc h.book (κ'.types κ').2.2.1 e
   · obtain ⟨_,cur2,hc2⟩:=hrow g e
     exact ty_ne hc2 hc (κ.types κ').1 rfl)
 rw [← hW]
 refine ⟨hT,h.le,?_,fun κ' => ?_⟩
 · rw [hW,heap_setCell_same _ _ _ _ _ _ hb8];cases κ <;> rfl
 · rcases Kd.dec κ' κ with e | e
   · subst e
     rw [updK_self,updK_self]
     refine ⟨?_,fun i hi => ?_,fun i j hi hj hij g hg => ?_,fun i hi => ?_,by simp;omega⟩
     · rw [List.length_append,List.length_singleton,hcells_snoc]
       refine owns_touch ?_ ht9 (fun k hk e => ?_)
       · have e1:(Hl.cells ⟨x,⟨none,0,0⟩,N+1⟩)=[.slice x.a x.n x.c,.slice none 0 0,.int .i64 ((N:Int)+1)]:=by simp [Hl.cells,Hd.val]
         rw [e1];exact hown
       · obtain ⟨cur,hc⟩:=owns_block hown hk
         exact ty_ne hc hb8 (κ'.types κ').2.1 e
     · by_cases hil:i<(H κ').length
       · rw [List.getElem_append_left hil];exact hel _ ((h.part κ').ok i hil)
       · have:i=(H κ').length:=by simp at hi;omega
         subst this
         rw [List.getElem_append_right (Nat.le_refl _)]
         simp;exact hel _ hx
     · by_cases hil:i<(H κ').length
       · rw [List.getElem_append_left hil] at hg
         by_cases hjl:j<(H κ').length
         · rw [List.getElem_append_left hjl];exact (h.part κ').apart i j hil hjl hij g hg
         · have:j=(H κ').length:=by simp at hj;omega
           subst this
           rw [List.getElem_append_right (Nat.le_refl _)]
           simp;exact hap i hil g hg
       · have:i=(H κ').length:=by simp at hi;omega
         subst this
         rw [List.getElem_append_right (Nat.le_refl _)] at hg
         simp at hg
         have hjl:j<(H κ').length:=by simp at hj;omega
         rw [List.getElem_append_left hjl]
         intro hg2
         exact hap j hjl g hg2 hg
     · by_cases hil:i<(H κ').length
       · rw [List.getElem_append_left hil];exact (h.part κ').num i hil
       · have:i=(H κ').length:=by simp at hi;omega
         subst this
         rw [List.getElem_append_right (Nat.le_refl _)]
         simp;omega
   · rw [updK_ne _ _ _ _ e,updK_ne _ _ _ _ e]
     refine (h.part κ').touch hT0 (fun k hk cur t fz hc => ?_)
     have q1:=κ.types κ'
     have q2:=κ'.types κ
     rcases hk with hk | hk
     · rw [hk,h.book] at hc
       rw [← (Obj.cells.inj (Option.some.inj hc)).2.1]
       exact ⟨Ne.symm q2.2.2.1,Ne.symm q2.2.1⟩
     · obtain ⟨_,cur2,hc2⟩:=hrow k hk
       rw [hc2] at hc
       rw [← (Obj.cells.inj (Option.some.inj hc)).2.1]
       exact ⟨q1.1,(q1.2.2.2 (Ne.symm e)).1⟩
theorem run_append1 (κ:Kd) (w:World) (ty:TypeId) (a:Option Addr) (n c:Nat) (cur:List Value) (h:SK κ.el w a n c cur) (bo:Addr) (v:Value) (hv:w.cell? bo=some v) (h1:v.oneCell'=true) (hn:n≤1000000000) :
   ∃ a' c' cur' w',(Builtin.append_ #[κ.ls,κ.ls] ty #[.slice a n c,.slice (some bo) 1 1]).run Tryz.prog w=.ok (.slice a' (n+1) c') w'∧SK κ.el w' a' (n+1) c' cur'∧cur'.take (n+1)=cur.take n ++ [v] ∧
     ((a'=a∧c'=c∧n<c∧∀ g,a=some ⟨g,0,none⟩→Touch (fun k=>k=g) w w')∨(a'=some ⟨w.heap.size,0,none⟩∧Below w.heap.size w w')):=by
 obtain ⟨i,hi,hz,hs,hb⟩:=info_parts (rowE κ).info
 have ht:=(rowE κ).ht
 have hsz:κ.z.cells.size=1:=by cases κ <;> rfl
 have hsb:κ.sz≤24:=by cases κ <;> decide
 have hnews:∀ j u,[v][j]?=some u→w.cell? (bo.add j)=some u:=by
   intro j u hu
   match j,hu with
   | 0,hu=>simp at hu;subst hu;simpa [Addr.add] using hv
 have h1':∀ u ∈ [v],u.oneCell'=true:=fun u hu=>by simp at hu;subst hu;exact h1
 rcases h with ⟨rfl,rfl,rfl,rfl⟩ | ⟨g,rfl,⟨fz,hg,hzf⟩,hnc,hcl,hcm⟩
 · have hr:=run_append_nil (P:=Tryz.prog) w κ.ls ty κ.el i _ ht hi hz bo 1 1 [v] (by rw [hs];rfl) hnews (by decide) (by decide) (by rw [hb];omega)
   have hge:=grownCap_ge w 1 0 κ.el
   have hcm:grownCap w 1 0 κ.el≤maxLen:=grownCap_le_maxLen w 1 0 κ.el (by decide)
   refine ⟨_,_,([v] ++ (Builtin.zeroCells κ.z.cells (grownCap w 1 0 κ.el - 1)).toList),_,hr,.inr ⟨w.heap.size,rfl,⟨_,?_,.inl rfl⟩,by omega,?_,hcm⟩,?_,.inr ⟨rfl,((Below.refl _ w).drew).alloc (by simp) _⟩⟩
   · exact (heap_new w.drew _).trans (by simp)
   · simp only [List.length_append,List.length_singleton,Array.length_toList,size_zeroCells,hsz]
     omega
   · simp
 · by_cases hroom:n+1≤c
   · have hnl:n<cur.length:=by omega
     have hfr:w.frozen? ⟨g,n,none⟩=false:=by
       rcases hzf with rfl | hz
       · simp [World.frozen?,hg]
       · obtain ⟨lo,hi⟩:=fz
         dsimp only at hz
         simp [World.frozen?,hg]
         omega
     have hr:=run_append_room_cells (P:=Tryz.prog) (w:=w) κ.ls ty κ.el i ht hi g 0 n c bo 1 1 [v] (by rw [hs];rfl) hnews h1' hroom (fun j hj=>by
       have:j=0:=by simpa using hj
       subst this
       rw [hs,cell_of_block hg];simp [hnl]) (fun j hj=>by
       have:j=0:=by simpa using hj
       subst this
       rw [hs];simpa using hfr)
     have hw:w.setCells g (0+n*i.size) [v]=w.setCell ⟨g,n,none⟩ v:=by rw [hs];simp [World.setCells]
     rw [hw] at hr
     refine ⟨_,_,cur.set n v,_,hr,.inr ⟨g,rfl,⟨fz,?_,by simpa using hzf⟩,hroom,by simpa using hcl,hcm⟩,?_,.inl ⟨rfl,rfl,by omega,fun g' e=>by cases e;exact (Touch.refl _ w).setCell _ _ (.inl rfl)⟩⟩
     · rw [heap_set_fz _ _ _ _ _ _ _ hg];simp
     · rw [List.take_add_one,List.take_set_of_le (Nat.le_refl _)]
       simp [hnl]
   · have hold:∀ j u,(cur.take n)[j]?=some u→w.cell? ((⟨g,0,none⟩:Addr).add j)=some u:=fun j u hu=>by
       rw [Addr.add_mid,cell_of_block hg]
       have hj:=(List.getElem?_eq_some_iff.1 hu).1
       rw [List.getElem?_take] at hu
       split at hu
       · simpa using hu
       · cases hu
     have hr:=run_append_grow (P:=Tryz.prog) w κ.ls ty κ.el i _ ht hi hz ⟨g,0,none⟩ n c (cur.take n) (by rw [hs];simp;omega) hold bo 1 1 [v] (by rw [hs];rfl) hnews (by omega) (by omega) (growslice_fits (by omega) (by rw [hb];exact Nat.le_trans (Nat.mul_le_mul_left _ hsb) (by omega)))
     have hge:=grownCap_ge w (n+1) c κ.el
     have hcm2:grownCap w (n+1) c κ.el≤maxLen:=grownCap_le_maxLen w (n+1) c κ.el (by unfold maxLen;omega)
     refine ⟨_,_,(cur.take n ++ [v] ++ (Builtin.zeroCells κ.z.cells (grownCap w (n+1) c κ.el - (n+1))).toList),_,hr,.inr ⟨w.heap.size,rfl,⟨_,?_,.inl rfl⟩,by omega,?_,hcm2⟩,?_,.inr ⟨rfl,((Below.refl _ w).drew).alloc (by simp) _⟩⟩
     · exact (heap_new w.drew _).trans (by simp)
     · simp only [List.length_append,List.length_singleton,Array.length_toList,size_zeroCells,List.length_take,hsz]
       omega
     · rw [List.take_append_of_le_length (by simp;omega)]
       exact List.take_of_length_le (by simp;omega)
theorem wpList_append1 (κ:Kd) {w:World} {ops:Array Oper} {rest:List Oper} {o:Oper} {a:Act} {Q:Exit→Act→World→Prop} (hgd:o.guard=none) (s x:Operand)
   (ho:o.op=.call { callee:=.builtin .append,args:=#[s,x],argTypes:=#[κ.ls,κ.ls] }) (p:Option Addr) (n c:Nat) (cur:List Value) (hs:a.eval s=.slice p n c) (h:SK κ.el w p n c cur)
   (bo:Addr) (v:Value) (hx:a.eval x=.slice (some bo) 1 1) (hv:w.cell? bo=some v) (h1:v.oneCell'=true) (hn:n≤1000000000)
   (hK:∀ a' c' cur' w',SK κ.el w' a' (n+1) c' cur'→cur'.take (n+1)=cur.take n ++ [v]→((a'=p∧c'=c∧n<c∧∀ g,p=some ⟨g,0,none⟩→Touch (fun k=>k=g) w w')∨(a'=some ⟨w.heap.size,0,none⟩∧Below w.heap.size w w'))→wpList Tryz.prog ops Q rest (a.put o.dst (.slice a' (n+1) c')) w'):wpList Tryz.prog ops Q (o :: rest) a w:=by
 refine wpList_plain hgd fun _ hKK => ?_
 obtain ⟨a',c',cur',w',hr,h2,h3,h4⟩:=run_append1 κ w o.type p n c cur h bo v hv h1 hn
 exact Lib.wp_append_run w s x κ.ls κ.ls ho _ _ hs hx _ w' hr (hKK _ _ (hK a' c' cur' w' h2 h3 h4))
set_option maxHeartbeats 4000000 in
theorem keepByteList_any (w:World) (B bk N:Nat) (bs:Kd→Value) (H:Kd→List Hl) (h:Bk w B bk N bs H) (x:Hd) (hx:HOk .bl w B x) (hap:∀ i (hi:i<(H .bl).length),∀ g,(H .bl)[i].l.a=some ⟨g,0,none⟩→x.a≠some ⟨g,0,none⟩) (hN:N<1000000) (hH:(H .bl).length<1000000) :
   Calls Tryz.prog 143 #[.pointer (some ⟨bk,0,none⟩),x.val] w fun e w' => e=.returned (.tuple #[])∧Touch (BkS w B) w w'∧∃ bs',Bk w' B bk (N+1) bs' (updK H .bl (H .bl ++ [⟨x,⟨none,0,0⟩,N+1⟩])):=by
 obtain ⟨bo,bc,hbs⟩:=owns_shape (h.part .bl).row
 have hP:=h.part .bl
 rw [hbs] at hP
 have hb0:=h.cell .bl
 rw [hbs] at hb0
 have HBS:=Lib.hid hbs
 obtain ⟨L,hL⟩:∃ L,L=H .bl:=⟨_,rfl⟩
 have HL:=Lib.hid hL
 rw [← hL] at hP hb0 hH
 clear hL hbs
 unfold Hd.val
 have f0:w.cell? ⟨bk,0,none⟩=some (.int .i64 N):=by rw [cell_of_block h.book];rfl
 have ff:w.frozen? ⟨bk,0,none⟩=false:=h.frozen 0
 have ht1:Touch (fun k=>k=bk) w (w.setCell ⟨bk,0,none⟩ (.int .i64 ((N:Int)+1))):=(Touch.refl _ _).setCell _ _ (.inl rfl)
 have hb1:(w.setCell ⟨bk,0,none⟩ (.int .i64 ((N:Int)+1))).heap[bk]?=some (.cells (bookC (N+1) bs) 56 (0,0)):=by rw [heap_setCell_same _ _ _ _ _ _ h.book];rfl
 have hrow1:(w.setCell ⟨bk,0,none⟩ (.int .i64 ((N:Int)+1))).ownsRow B 180 3 (.slice bo L.length bc) L.length (hcells L):=owns_touch hP.row ht1 (fun k hk e=>by
   obtain ⟨cur,hc⟩:=owns_block hP.row hk
   exact ty_ne hc h.book (by decide) e)
 have HH:=Lib.hid h
 go_enter Tryz.func143,Tryz.ntmps143
 go_wp2
 generalize w.setCell ⟨bk,0,none⟩ (.int .i64 ((N:Int)+1))=w1 at ht1 hb1 hrow1 ⊢
 have hbx:bs .bl=.slice bo L.length bc:=by rw [HBS.out,← HL.out]
 have hbook:∀ (W:World),W.heap[bk]?=some (.cells (bookC (N+1) bs) 56 (0,0))→W.cell? ⟨bk,5,none⟩=some (.slice bo L.length bc):=fun W h=>by rw [cell_of_block h,← hbx];rfl
 have HBO:=Lib.hid hbook
 clear hbook hbx
 have g0:w1.cell? ⟨bk,0,none⟩=some (.int .i64 ((N:Int)+1)):=by rw [cell_of_block hb1];simp [bookC]
 have g1:w1.cell? ⟨bk,5,none⟩=some (.slice bo L.length bc):=HBO.out w1 hb1
 have k0:(w1.alloc (.cells #[.slice x.a x.n x.c,.slice none 0 0,.int .i64 ((N:Int)+1)] 180)).drew.cell? ⟨bk,0,none⟩=some (.int .i64 ((N:Int)+1)):=cell_later (((Below.refl _ _).alloc (Nat.le_refl _) _).drew) g0
 have k1:(w1.alloc (.cells #[.slice x.a x.n x.c,.slice none 0 0,.int .i64 ((N:Int)+1)] 180)).drew.cell? ⟨bk,5,none⟩=some (.slice bo L.length bc):=cell_later (((Below.refl _ _).alloc (Nat.le_refl _) _).drew) g1
 have HR:=Lib.hid hrow1
 have HB:=Lib.hid hb1
 have HT:=Lib.hid ht1
 have hfew:=Lib.hid hP.few
 have hle:=Lib.hid h.le
 have hsz:Hid (B≤w1.heap.size):=Lib.hid (Nat.le_trans h.le (Nat.le_of_lt (lt_of_heap hb1)))
 have hnb:Hid (∀ k,(Value.slice bo L.length bc).ownBlock=some k→¬ (bk=k)):=Lib.hid (fun k hk e=>by
   obtain ⟨cur,hc⟩:=owns_block HR.out hk
   exact ty_ne hc HB.out (by decide) e.symm)
 clear f0 ff ht1 hb1 hrow1 h hP hb0
 go_region_law (first
   | (refine step_append_any (rowH .bl) rfl (.tmp 15) (.tmp 22) (by rfl) B (.slice bo L.length bc) L.length (hcells L) (by simp [Act.eval,Act.put]) (owns_below HR.out (by first | exact ((Below.refl _ _).alloc (Nat.le_refl _) _).drew | exact ((Below.refl _ _).drew).alloc (by simp) _ | exact ((Below.refl _ _).alloc (Nat.le_refl _) _))) (some ⟨w1.heap.size,0,none⟩) 1 1 [.slice x.a x.n x.c,.slice none 0 0,.int .i64 ((N:Int)+1)] (by simp [Act.eval,Act.put]) rfl (At.row3 _ _ _ _ _) (one3 _ _ _ _) (by unfold maxLen;omega) (by omega) (Nat.le_trans hsz.out (by simp)) ?_;intro b8 c8 w8 hown8 hg8 hat8;have hT8:Touch (fun k=>(Value.slice bo L.length bc).ownBlock=some k) w1 w8:=grown_touch (by first | exact ((Below.refl _ _).alloc (Nat.le_refl _) _).drew | exact ((Below.refl _ _).drew).alloc (by simp) _ | exact ((Below.refl _ _).alloc (Nat.le_refl _) _)) hg8;have hb8:=hT8.heap HB.out (fun e=>hnb.out bk e rfl);have q1:w8.cell? ⟨bk,5,none⟩=some (.slice bo L.length bc):=HBO.out w8 hb8;have qf:w8.frozen? ⟨bk,5,none⟩=false:=blk_frozen hb8)
   | fail)
 all_goals
   have E:Touch (BkS w B) w (w8.setCell ⟨bk,5,none⟩ (.slice b8 (L.length+1) c8))∧Bk (w8.setCell ⟨bk,5,none⟩ (.slice b8 (L.length+1) c8)) B bk (N+1) (updK bs .bl (.slice b8 (L.length+1) c8)) (updK H .bl (H .bl ++ [⟨x,⟨none,0,0⟩,N+1⟩])):=by
     have e:=HL.out
     subst e
     exact bk_keep_end HH.out HBS.out hx hap hN hH HT.out hT8 hb8 hown8
   clear hg8 hat8 hown8 hT8 hb8 q1 qf
   go_end0
   exact ⟨rfl,E.1,_,E.2⟩
set_option maxHeartbeats 4000000 in
theorem keepIntList_any (w:World) (B bk N:Nat) (bs:Kd→Value) (H:Kd→List Hl) (h:Bk w B bk N bs H) (x:Hd) (hx:HOk .il w B x) (hap:∀ i (hi:i<(H .il).length),∀ g,(H .il)[i].l.a=some ⟨g,0,none⟩→x.a≠some ⟨g,0,none⟩) (hN:N<1000000) (hH:(H .il).length<1000000) :
   Calls Tryz.prog 166 #[.pointer (some ⟨bk,0,none⟩),x.val] w fun e w' => e=.returned (.tuple #[])∧Touch (BkS w B) w w'∧∃ bs',Bk w' B bk (N+1) bs' (updK H .il (H .il ++ [⟨x,⟨none,0,0⟩,N+1⟩])):=by
 obtain ⟨bo,bc,hbs⟩:=owns_shape (h.part .il).row
 have hP:=h.part .il
 rw [hbs] at hP
 have hb0:=h.cell .il
 rw [hbs] at hb0
 have HBS:=Lib.hid hbs
 obtain ⟨L,hL⟩:∃ L,L=H .il:=⟨_,rfl⟩
 have HL:=Lib.hid hL
 rw [← hL] at hP hb0 hH
 clear hL hbs
 unfold Hd.val
 have f0:w.cell? ⟨bk,0,none⟩=some (.int .i64 N):=by rw [cell_of_block h.book];rfl
 have ff:w.frozen? ⟨bk,0,none⟩=false:=h.frozen 0
 have ht1:Touch (fun k=>k=bk) w (w.setCell ⟨bk,0,none⟩ (.int .i64 ((N:Int)+1))):=(Touch.refl _ _).setCell _ _ (.inl rfl)
 have hb1:(w.setCell ⟨bk,0,none⟩ (.int .i64 ((N:Int)+1))).heap[bk]?=some (.cells (bookC (N+1) bs) 56 (0,0)):=by rw [heap_setCell_same _ _ _ _ _ _ h.book];rfl
 have hrow1:(w.setCell ⟨bk,0,none⟩ (.int .i64 ((N:Int)+1))).ownsRow B 177 3 (.slice bo L.length bc) L.length (hcells L):=owns_touch hP.row ht1 (fun k hk e=>by
   obtain ⟨cur,hc⟩:=owns_block hP.row hk
   exact ty_ne hc h.book (by decide) e)
 have HH:=Lib.hid h
 go_enter Tryz.func166,Tryz.ntmps166
 go_wp2
 generalize w.setCell ⟨bk,0,none⟩ (.int .i64 ((N:Int)+1))=w1 at ht1 hb1 hrow1 ⊢
 have hbx:bs .il=.slice bo L.length bc:=by rw [HBS.out,← HL.out]
 have hbook:∀ (W:World),W.heap[bk]?=some (.cells (bookC (N+1) bs) 56 (0,0))→W.cell? ⟨bk,4,none⟩=some (.slice bo L.length bc):=fun W h=>by rw [cell_of_block h,← hbx];rfl
 have HBO:=Lib.hid hbook
 clear hbook hbx
 have g0:w1.cell? ⟨bk,0,none⟩=some (.int .i64 ((N:Int)+1)):=by rw [cell_of_block hb1];simp [bookC]
 have g1:w1.cell? ⟨bk,4,none⟩=some (.slice bo L.length bc):=HBO.out w1 hb1
 have k0:(w1.alloc (.cells #[.slice x.a x.n x.c,.slice none 0 0,.int .i64 ((N:Int)+1)] 177)).drew.cell? ⟨bk,0,none⟩=some (.int .i64 ((N:Int)+1)):=cell_later (((Below.refl _ _).alloc (Nat.le_refl _) _).drew) g0
 have k1:(w1.alloc (.cells #[.slice x.a x.n x.c,.slice none 0 0,.int .i64 ((N:Int)+1)] 177)).drew.cell? ⟨bk,4,none⟩=some (.slice bo L.length bc):=cell_later (((Below.refl _ _).alloc (Nat.le_refl _) _).drew) g1
 have HR:=Lib.hid hrow1
 have HB:=Lib.hid hb1
 have HT:=Lib.hid ht1
 have hfew:=Lib.hid hP.few
 have hle:=Lib.hid h.le
 have hsz:Hid (B≤w1.heap.size):=Lib.hid (Nat.le_trans h.le (Nat.le_of_lt (lt_of_heap hb1)))
 have hnb:Hid (∀ k,(Value.slice bo L.length bc).ownBlock=some k→¬ (bk=k)):=Lib.hid (fun k hk e=>by
   obtain ⟨cur,hc⟩:=owns_block HR.out hk
   exact ty_ne hc HB.out (by decide) e.symm)
 clear f0 ff ht1 hb1 hrow1 h hP hb0
 go_region_law (first
   | (refine step_append_any (rowH .il) rfl (.tmp 15) (.tmp 22) (by rfl) B (.slice bo L.length bc) L.length (hcells L) (by simp [Act.eval,Act.put]) (owns_below HR.out (by first | exact ((Below.refl _ _).alloc (Nat.le_refl _) _).drew | exact ((Below.refl _ _).drew).alloc (by simp) _ | exact ((Below.refl _ _).alloc (Nat.le_refl _) _))) (some ⟨w1.heap.size,0,none⟩) 1 1 [.slice x.a x.n x.c,.slice none 0 0,.int .i64 ((N:Int)+1)] (by simp [Act.eval,Act.put]) rfl (At.row3 _ _ _ _ _) (one3 _ _ _ _) (by unfold maxLen;omega) (by omega) (Nat.le_trans hsz.out (by simp)) ?_;intro b8 c8 w8 hown8 hg8 hat8;have hT8:Touch (fun k=>(Value.slice bo L.length bc).ownBlock=some k) w1 w8:=grown_touch (by first | exact ((Below.refl _ _).alloc (Nat.le_refl _) _).drew | exact ((Below.refl _ _).drew).alloc (by simp) _ | exact ((Below.refl _ _).alloc (Nat.le_refl _) _)) hg8;have hb8:=hT8.heap HB.out (fun e=>hnb.out bk e rfl);have q1:w8.cell? ⟨bk,4,none⟩=some (.slice bo L.length bc):=HBO.out w8 hb8;have qf:w8.frozen? ⟨bk,4,none⟩=false:=blk_frozen hb8)
   | fail)
 all_goals
   have E:Touch (BkS w B) w (w8.setCell ⟨bk,4,none⟩ (.slice b8 (L.length+1) c8))∧Bk (w8.setCell ⟨bk,4,none⟩ (.slice b8 (L.length+1) c8)) B bk (N+1) (updK bs .il (.slice b8 (L.length+1) c8)) (updK H .il (H .il ++ [⟨x,⟨none,0,0⟩,N+1⟩])):=by
     have e:=HL.out
     subst e
     exact bk_keep_end HH.out HBS.out hx hap hN hH HT.out hT8 hb8 hown8
   clear hg8 hat8 hown8 hT8 hb8 q1 qf
   go_end0
   exact ⟨rfl,E.1,_,E.2⟩
end Go.Proofs.YtgbikngicidbkaaGreatDoor
