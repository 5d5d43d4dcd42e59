/- Bytes behind a slice of bytes that is full: laws of our own;conditions: those typed. -/
import Derived.Test.YtgbikngicidbkaaGreatDoorQGHeapBFz
import Derived.Test.YtgbikngicidbkaaGreatDoorQGSlotsR
import Derived.ArgAppend
import Derived.Deep.MidRow
import Derived.Lib.AppendZerosOnto
namespace Go.Proofs.YtgbikngicidbkaaGreatDoor
open Go.RowKit
set_option linter.unusedVariables false
set_option linter.unusedSimpArgs false
theorem run_append_fullB (w:World) (ty:TypeId) (a:Option Addr) (n:Nat) (l:List UInt8) (hl:IsB w a n n l) (bo:Option Addr) (m c:Nat) (k:List UInt8) (hk:IsB w bo m c k) (hsm:l.length+k.length≤100000000) :
   ∃ a' c' w',(Builtin.append_ #[24,24] ty #[.slice a n n,.slice bo m c]).run Tryz.prog w=.ok (.slice a' (n+m) c') w'∧IsB w' a' (n+m) c' (l ++ k)∧Below w.heap.size w w'∧(∀ b off s,a'=some ⟨b,off,s⟩→a=some ⟨b,off,s⟩∨w.heap.size≤b):=by
 obtain ⟨i,hi,hz,hs,hb⟩:=info_parts rowU8.info
 have ht:=rowU8.ht
 obtain rfl:=hl.1
 obtain rfl:=hk.1
 have hat:=hk.at
 have hal:=hl.at
 by_cases h0:k=[]
 · subst h0
   refine ⟨a,l.length,w,?_,by simpa using hl,Below.refl _ _,fun b off s h=>.inl h⟩
   have hf:(Builtin.firstCells i.size 0 (.slice bo 0 c)).run Tryz.prog w=.ok #[] w:=by
     cases bo with
     | none=>simp [Builtin.firstCells]
     | some x=>exact run_firstCells_some (P:=Tryz.prog) w i.size 0 x 0 c [] (by simp) (fun j v h=>by simp at h)
   cases a with
   | none=>simp [Builtin.append_,run_underlying ht,sizeOf,typeInfo,hi,Builtin.lenOf,hf,storeCells]
   | some x=>simp [Builtin.append_,run_underlying ht,sizeOf,typeInfo,hi,Builtin.lenOf,hf,storeCells]
 · have hpos:0<k.length:=List.length_pos_iff.2 h0
   obtain ⟨xb,xo,rfl⟩:=hk.nonnil hpos
   have hat':∀ j u,(bcells k)[j]?=some u→w.cell? ((⟨xb,xo,none⟩:Addr).add j)=some u:=fun j u h=>by
     obtain ⟨b,hb,hc⟩:=hat j u h;cases hb;exact hc
   have key:∃ v' w',(Builtin.append_ #[24,24] ty #[.slice a l.length l.length,.slice (some ⟨xb,xo,none⟩) k.length c]).run Tryz.prog w=.ok v' w'∧w'.ownsRow w.heap.size 5 1 v' (l.length+k.length) (bcells l ++ bcells k)∧w.grownBy w' none:=by
     cases a with
     | some x =>
       exact run_append_arg_grows (P:=Tryz.prog) w 24 ty 5 i _ 1 1 ht hi hz hs hb rfl (by decide) x l.length l.length (bcells l) (by rw [bcells_length,Nat.mul_one]) (fun j u h=>by
         obtain ⟨b,hb,hc⟩:=hal j u h;cases hb;exact hc) ⟨xb,xo,none⟩ k.length c (bcells k) (by rw [bcells_length,Nat.mul_one]) hat' (by omega) (by unfold maxLen;omega) (by omega)
     | none =>
       have hl0:l=[]:=by
         rcases hl.2.2.2 with ⟨h,_⟩ | ⟨_,_,h,_⟩
         · exact h
         · cases h
       subst hl0
       obtain ⟨v',w',h1,h2,h3,_⟩:=run_append_own (P:=Tryz.prog) w w.heap.size 24 ty 5 i _ 1 1 ht hi hz hs hb rfl (by decide) (.slice none 0 0) 0 [] (World.ownsRow_nil w _ _ _) ⟨xb,xo,none⟩ k.length c (bcells k) (by rw [bcells_length,Nat.mul_one]) hat' (bcells_one k) (by unfold maxLen;omega) (by omega) (Nat.le_refl _)
       exact ⟨v',w',h1,h2,h3⟩
   obtain ⟨v',w',h1,h2,h3⟩:=key
   obtain ⟨b',c',rfl⟩:=owns_shape h2
   rw [← bcells_append] at h2
   refine ⟨b',c',w',h1,isB_of_owns h2 (by simp),(Below.refl _ w).grown h3 (Nat.le_refl _) (fun j hj=>by cases hj),fun b off s hbb=>.inr ?_⟩
   subst hbb
   exact owns_base h2 b rfl
theorem wpList_append_fullB {w:World} {ops:Array Oper} {rest:List Oper} {o:Oper} {a:Act} {Q:Exit→Act→World→Prop} (hgd:o.guard=none) (s x:Operand)
   (ho:o.op=.call { callee:=.builtin .append,args:=#[s,x],argTypes:=#[24,24] })
   (ao:Option Addr) (n:Nat) (l:List UInt8) (hs:a.eval s=.slice ao n n) (hl:IsB w ao n n l) (bo:Option Addr) (m c:Nat) (k:List UInt8) (hx:a.eval x=.slice bo m c) (hk:IsB w bo m c k) (hsm:l.length+k.length≤100000000)
   (h:∀ a' c' w',IsB w' a' (n+m) c' (l ++ k)→Below w.heap.size w w'→(∀ b off s,a'=some ⟨b,off,s⟩→ao=some ⟨b,off,s⟩∨w.heap.size≤b)→wpList Tryz.prog ops Q rest (a.put o.dst (.slice a' (n+m) c')) w'):wpList Tryz.prog ops Q (o :: rest) a w:=by
 refine wpList_plain hgd fun _ hK => ?_
 obtain ⟨a',c',w',hr,h2,h3,h4⟩:=run_append_fullB w o.type ao n l hl bo m c k hk hsm
 exact Lib.wp_append_run w s x _ _ ho _ _ hs hx _ w' hr (hK _ _ (h a' c' w' h2 h3 h4))
theorem step_append_fullB {w:World} {ops:Array Oper} {o:Oper} {a:Act} {K:Act→World→Prop} {Q:Exit→Act→World→Prop} {E:Prop} (hgd:o.guard=none) (s x:Operand)
   (ho:o.op=.call { callee:=.builtin .append,args:=#[s,x],argTypes:=#[24,24] })
   (ao:Option Addr) (n:Nat) (l:List UInt8) (hs:a.eval s=.slice ao n n) (hl:IsB w ao n n l) (bo:Option Addr) (m c:Nat) (k:List UInt8) (hx:a.eval x=.slice bo m c) (hk:IsB w bo m c k) (hsm:l.length+k.length≤100000000)
   (h:∀ a' c' w',IsB w' a' (n+m) c' (l ++ k)→Below w.heap.size w w'→(∀ b off s,a'=some ⟨b,off,s⟩→ao=some ⟨b,off,s⟩∨w.heap.size≤b)→K (a.put o.dst (.slice a' (n+m) c')) w') :
   if Region.wanted o (yielded ops a.tmps)=true then Oper.wp Tryz.prog o a w K Q else E:=by
 have hw:Region.wanted o (yielded ops a.tmps)=true:=by simp [Region.wanted,hgd]
 rw [if_pos hw]
 obtain ⟨a',c',w',hr,h2,h3,h4⟩:=run_append_fullB w o.type ao n l hl bo m c k hk hsm
 exact Lib.wp_append_run w s x _ _ ho _ _ hs hx _ w' hr (h a' c' w' h2 h3 h4)
end Go.Proofs.YtgbikngicidbkaaGreatDoor
