/- The reference of layer 1: lists of numbers got;conditions: those typed. -/
import Derived.Test.YtgbikngicidbkaaGreatDoorQGStNGStN2R1ListR1GetL
import Derived.Test.YtgbikngicidbkaaGreatDoorQStSeq
import Derived.Deep.QuietTactic
import Derived.BigQuiet
import Derived.IntWalk
namespace Go.Proofs.YtgbikngicidbkaaGreatDoor
open Go.RowKit
set_option linter.unusedVariables false
set_option linter.unusedSimpArgs false
set_option maxRecDepth 100000
def OwI1 (B:Nat) (w:World) (a:Option Addr) (m c:Nat) (l:List Int):Prop:=m=l.length∧w.ownsRow B 3 1 (.slice a m c) m (icells l)
theorem OwI1.low {B B':Nat} {w:World} {a:Option Addr} {m c:Nat} {l:List Int} (h:OwI1 B w a m c l) (hb:B'≤B):OwI1 B' w a m c l:=⟨h.1,owns_low h.2 hb⟩
theorem OwI1.below {B:Nat} {w w':World} {a:Option Addr} {m c:Nat} {l:List Int} (h:OwI1 B w a m c l) (hb:Below w.heap.size w w'):OwI1 B w' a m c l:=⟨h.1,owns_below h.2 hb⟩
theorem OwI1.nil (B:Nat) (w:World):OwI1 B w none 0 0 []:=⟨rfl,World.ownsRow_nil _ _ _ _⟩
theorem icells_snoc1 (l:List Int) (z:Int):icells (l ++ [z])=icells l ++ [.int .i64 z]:=by simp [icells]
theorem rgetlist_bad (a:Option Addr) (n c:Nat) (b:List UInt8) (w:World) (hb:IsB w a n c b) (h:decL b=none) :
   Calls Tryz.prog 140 #[.slice a n c] w fun e w' => e=.returned (.tuple #[.slice none 0 0,.int .i64 0,.int .i64 5])∧w=w':=by
 obtain rfl:=hb.1
 have hm:b.length≤9223372036854775807:=by have:=hb.2.1;have:=hb.2.2.1;unfold maxLen at this;omega
 cases b with
 | nil =>
   clear hb h hm
   go_enter Tryz.func140,Tryz.ntmps140
   go_wp2_with fail
   go_ret3
   exact ⟨rfl,rfl⟩
 | cons x t =>
   have hs:t.length<4*x.toNat:=by
     rcases Nat.lt_or_ge t.length (4*x.toNat) with h' | h'
     · exact h'
     · rw [decL_some x t (by omega)] at h;cases h
   obtain ⟨ab,ao,rfl⟩:=hb.nonnil (by simp)
   have hc0:w.cell? ⟨ab,ao,none⟩=some (.int .u8 x.toNat):=by
     rcases hb.2.2.2 with ⟨h0,_⟩ | ⟨b',off',h0,_,hc⟩
     · cases h0
     · cases h0
       exact hc 0 (by simp)
   have hx:=x.toNat_lt
   have d1:decide (((x :: t).length:Int)<1)=false:=by rw [decide_eq_false_iff_not];simp;omega
   have d2:decide (((x :: t).length:Int)<1+4*(x.toNat:Int))=true:=by rw [decide_eq_true_iff];simp;omega
   have hpos:0<(x :: t).length:=by simp
   generalize (x :: t).length=m at d1 d2 hpos hm
   generalize x.toNat=y at hc0 d2 hx
   clear hb h hs
   go_enter Tryz.func140,Tryz.ntmps140
   go_wp2_with fail
   go_ret3
   exact ⟨rfl,rfl⟩
set_option maxHeartbeats 8000000 in
theorem rgetlist_some (ab ao c:Nat) (x:UInt8) (t:List UInt8) (w:World) (hb:IsB w (some ⟨ab,ao,none⟩) (x :: t).length c (x :: t)) (hl:¬ t.length<4*x.toNat) :
   Calls Tryz.prog 140 #[.slice (some ⟨ab,ao,none⟩) (x :: t).length c] w fun e w' => ∃ a' m' c',e=.returned (.tuple #[.slice a' m' c',.int .i64 ((1+4*x.toNat:Nat):Int),.int .i64 0])∧Below w.heap.size w w'∧OwI1 w.heap.size w' a' m' c' (decI x.toNat t):=by
 have hx:=x.toNat_lt
 have hc0:w.cell? ⟨ab,ao,none⟩=some (.int .u8 x.toNat):=by
   rcases hb.2.2.2 with ⟨h0,_⟩ | ⟨b',off',h0,_,hc⟩
   · cases h0
   · cases h0
     exact hc 0 (by simp)
 have hab:ab<w.heap.size:=World.block_lt_of_cell? _ _ hc0
 have hm:c≤9223372036854775807:=by have:=hb.2.2.1;unfold maxLen at this;omega
 have hbc:=hb.2.1
 have d1:decide (((x :: t).length:Int)<1)=false:=by rw [decide_eq_false_iff_not];simp;omega
 have d2:decide (((x :: t).length:Int)<1+4*(x.toNat:Int))=false:=by rw [decide_eq_false_iff_not];simp;omega
 have hlen:1+4*x.toNat≤(x :: t).length:=by simp;omega
 have HD:=Lib.hid (decI_get x.toNat t)
 have HL:=Lib.hid (decI_length x.toNat t)
 have HDR:Hid (∀ j,(x :: t).drop (1+4*j)=t.drop (4*j)):=Lib.hid (fun j=>by rw [Nat.add_comm,List.drop_succ_cons])
 have HB:=Lib.hid hb
 have hpos:0<(x :: t).length:=by simp
 generalize (x :: t).length=m at d1 d2 hpos hbc hlen HB ⊢
 generalize x :: t=b at HB HDR
 generalize x.toNat=y at hx hc0 d2 hlen HD HL ⊢
 clear hb hl
 have HE:Hid (((1+4*y:Nat):Int)=1+4*(y:Int)):=Lib.hid (by push_cast;rfl)
 have HC0:=Lib.hid hc0
 go_enter Tryz.func140,Tryz.ntmps140
 go_wp2_with fail
 obtain ⟨N,hN⟩:∃ N,N=y:=⟨_,rfl⟩
 have HN:=Lib.hid hN
 clear hN d2 d1
 go_loopw [6,5] (fun i s wr => ∃ k c':Nat,∃ a',k≤y∧i=.int .i64 k∧s=.slice a' k c'∧Hid (wr.ownsRow w.heap.size 3 1 (.slice a' k c') k (icells ((decI y t).take k)))∧Hid (Below w.heap.size w wr)) (fun i _ _=>N - (intOf i).toNat)
 case atStart=>exact ⟨0,0,none,Nat.zero_le _,rfl,rfl,Lib.hid (World.ownsRow_nil _ _ _ _),Lib.hid (Below.refl _ _)⟩
 case round =>
   clear hc0
   obtain ⟨k,c',a',hk,rfl,rfl,HO,HBW⟩:=hrel
   have hc1:wr.cell? ⟨ab,ao,none⟩=some (.int .u8 y):=(HBW.out.cell (p:=⟨ab,ao,none⟩) hab).trans HC0.out
   by_cases hlt:k<y
   · have hsub:=(HB.out.below HBW.out).drop (1+4*k) (by have:=HB.out.1;omega)
     rw [HDR.out] at hsub
     have hll:(t.drop (4*k)).length=m - (1+4*k):=by rw [← hsub.1]
     have hget:=HD.out k hlt
     have hkl:k<(decI y t).length:=by rw [HL.out];exact hlt
     have hgg:((decI y t)[k]'hkl)=((numOf ((t.drop (4*k)).take 4):Nat):Int):=by
       rw [List.getElem?_eq_getElem hkl] at hget
       exact Option.some.inj hget
     have hq:numOf ((t.drop (4*k)).take 4)<4294967296:=by
       have:=numOf_lt ((t.drop (4*k)).take 4)
       have h4:((t.drop (4*k)).take 4).length=4:=by rw [List.length_take,hll];omega
       rw [h4] at this
       exact this
     have HTK:Hid ((decI y t).take (k+1)=(decI y t).take k ++ [((numOf ((t.drop (4*k)).take 4):Nat):Int)]):=Lib.hid (by rw [List.take_succ_eq_append_getElem hkl,hgg])
     have HS:=Lib.hid hsub
     have HLL:=Lib.hid hll
     clear hsub hll hget hgg
     go_wp2_with fail
     refine (rget_any _ _ _ 4 _ (t.drop (4*k)) wr rfl HS.out (by decide) (by decide) (by rw [HLL.out];omega)).mono ?_;rintro e w2 ⟨rfl,rfl⟩
     generalize numOf ((t.drop (4*k)).take 4)=q at hq HTK
     go_wp2_with (first
       | (at_builtin;refine wpList_append_any rowInt rfl _ _ rfl w.heap.size _ k (icells ((decI y t).take k)) rfl (HO.out.alloc _) (some ⟨wr.heap.size,0,none⟩) 1 1 [.int .i64 (q:Int)] rfl rfl (At.one _ _ _) (one_cell _ rfl) (by unfold maxLen;omega) (by omega) (by have:=HBW.out.size;simp;omega) ?_;intro b2 c2 w2 hown2 hg2 hat2)
       | fail)
     have HB2:Hid (Below w.heap.size w w2):=Lib.hid ((HBW.out.alloc HBW.out.size _).grown hg2 (by have:=HBW.out.size;simp;omega) (fun i hi=>owns_base HO.out i hi))
     have HO2:Hid (w2.ownsRow w.heap.size 3 1 (.slice b2 (k+1) c2) (k+1) (icells ((decI y t).take (k+1)))):=Lib.hid (by rw [HTK.out,icells_snoc1];exact hown2)
     clear hown2 hg2 hat2 HO
     go_wp2_with fail
     go_roundw
     case rel=>exact ⟨k+1,c2,b2,by omega,by go_num,rfl,HO2,HB2⟩
     case measure=>have:=HN.out;simp [intOf];omega
   · have hkk:k=y:=by omega
     subst hkk
     have HT:Hid ((decI k t).take k=decI k t):=Lib.hid (List.take_of_length_le (by rw [HL.out];exact Nat.le_refl _))
     go_wp2_with fail
     have hw1:IntKind.i64.wrap (4*(k:Int))=4*(k:Int):=IntWalk.i64_in _ (by omega)
     have hw2:IntKind.i64.wrap (1+4*(k:Int))=1+4*(k:Int):=IntWalk.i64_in _ (by omega)
     go_quiet (fail)
     clear hw1 hw2
     go_wp2_with fail
     go_ret3
     have hO:=HO.out
     rw [HT.out] at hO
     exact ⟨a',k,c',by rw [HE.out];rfl,below_drewN HBW.out _,HL.out.symm,owns_below hO (below_drewN (Below.refl _ _) _)⟩
theorem rgetlist_ok (a:Option Addr) (n c:Nat) (b:List UInt8) (l:List Int) (r:List UInt8) (w:World) (hb:IsB w a n c b) (h:decL b=some (l,r)) :
   Calls Tryz.prog 140 #[.slice a n c] w fun e w' => ∃ a' c',e=.returned (.tuple #[.slice a' l.length c',.int .i64 ((1+4*l.length:Nat):Int),.int .i64 0])∧Below w.heap.size w w'∧OwI1 w.heap.size w' a' l.length c' l∧1+4*l.length≤b.length∧r=b.drop (1+4*l.length):=by
 cases b with
 | nil=>cases h
 | cons x t =>
   by_cases hl:t.length<4*x.toNat
   · rw [decL_short x t hl] at h;cases h
   rw [decL_some x t hl] at h
   obtain ⟨rfl,rfl⟩:=Prod.mk.inj (Option.some.inj h)
   obtain ⟨ab,ao,rfl⟩:=hb.nonnil (by simp)
   obtain rfl:=hb.1
   refine (rgetlist_some ab ao c x t w hb hl).mono ?_
   rintro e w' ⟨a',m',c',rfl,h1,h2⟩
   obtain rfl:=h2.1
   refine ⟨a',c',by rw [decI_length],h1,h2,by rw [decI_length];simp;omega,by rw [decI_length,Nat.add_comm,List.drop_succ_cons]⟩
end Go.Proofs.YtgbikngicidbkaaGreatDoor
