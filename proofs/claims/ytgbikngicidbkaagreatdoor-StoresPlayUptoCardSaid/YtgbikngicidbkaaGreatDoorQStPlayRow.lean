/- StoresPlay,where what it reads is of bulk at most 1048576: it returns true,and each argument reads behind the call as it read before. Conditions: that bound;the listed tables lie as the program lays them: the card ties that to the text. -/
import Derived.Test.YtgbikngicidbkaaGreatDoorQStPlayX
import Derived.Test.YtgbikngicidbkaaGreatDoorQR20mStPlayTR20nR20oStPlayArgs
import Derived.Test.YtgbikngicidbkaaGreatDoorTie
import Derived.Test.YtgbikngicidbkaaGreatDoorCards
import Derived.SevenTiedAt
import Derived.Deep.DeepHandedRow
import Derived.LaidMore
import Derived.Stop.Joined
namespace Go.Proofs.YtgbikngicidbkaaGreatDoor
section
open Go.ChangeShapes Go.WideShapes Go.ChangeAt Go.RowKit
set_option linter.unusedVariables false
set_option maxRecDepth 100000
theorem storesPlay_contract (H:Type) (enc:TypeId × Value→H) (W:World) (base:Nat) (args:Array Value) (ds gs:List (DataW H)) (before:List MemPlace)
   (hval0:∀ (j:Nat) t v,Tryz.f3.params[j]?=some t→args[j]?=some v→Value.okWide Tryz.prog W .any base t v)
   (hW:DataW.Whole enc Tryz.prog Tryz.f3.params.toList Rows.storesPlaySpec.vars false W args.toList ds gs before) (hk:Rows.uptoSmall H (ds ++ gs)=true) :
   Calls Tryz.prog 3 args W fun e W' => ∃ v,e=.returned v∧Rows.storesPlaySpec.post enc Tryz.prog Tryz.f3 false true false false W args v W':=by
 have hval:∀ (j:Nat) t v,Tryz.f3.params[j]?=some t→args[j]?=some v→Value.okWide Tryz.prog W .any base t v:=hval0
 have hW':=hW
 obtain ⟨p,q,hA0,hV,rfl,hfz,hnd⟩:=hW
 have hA:DataW.TrodAll enc Tryz.prog W 0 (fun _=>true) true Tryz.f3.params.toList args.toList ds p:=hA0
 rw [Tryz.params3] at hA hval
 obtain ⟨v0,vs0,x0,ds0,p0,q0,hargs0,rfl,rfl,H0,r0⟩:=trodAll_cons hA
 obtain ⟨v1,vs1,x1,ds1,p1,q1,hargs1,rfl,rfl,H1,r1⟩:=trodAll_cons r0
 obtain ⟨v2,vs2,x2,ds2,p2,q2,hargs2,rfl,rfl,H2,r2⟩:=trodAll_cons r1
 obtain ⟨rfl,rfl,rfl⟩:=trodAll_nil r2
 subst hargs1
 subst hargs2
 obtain rfl:args = #[v0,v1,v2]:=by cases args;simp_all
 obtain ⟨rfl,rfl⟩:=trodVars_none hV
 have k0:=H0
 have k1:=H1
 have k2:=H2
 have lt0:∀ x ∈ p0,x.block<W.heap.size:=by obtain ⟨m,hm⟩:=k0;exact DataW.trod_lt m _ _ _ hm
 have lt1:∀ x ∈ p1,x.block<W.heap.size:=by obtain ⟨m,hm⟩:=k1;exact DataW.trod_lt m _ _ _ hm
 have lt2:∀ x ∈ p2,x.block<W.heap.size:=by obtain ⟨m,hm⟩:=k2;exact DataW.trod_lt m _ _ _ hm
 obtain ⟨n0,rfl,hw0⟩:=open_int Tryz.underlying5 (hval 0 5 v0 rfl rfl) H0
 obtain ⟨s,rfl,hs⟩:=u8_nat hw0.2.2
 obtain ⟨a0,len0,cap0,rfl⟩:=okWide_slice Tryz.underlying28 (hval 2 28 v2 rfl rfl)
 have hK:Rows.uptoBulk x2≤1048576:=by
   have h:=bulks.bound hk
   simp only [List.append_nil,Rows.uptoBulkAll] at h
   omega
 have hK0:Rows.uptoBulk x1≤1048576:=by
   have h:=bulks.bound hk
   simp only [List.append_nil,Rows.uptoBulkAll] at h
   omega
 obtain ⟨L,hL,hL1,hL2,hL3⟩:=open_AcV H2 1048576 hK (Nat.le_refl _)
 obtain ⟨cx,cf,rfl,hcf,hsm⟩:=open_cfgK (hval 1 27 v1 rfl rfl) H1 1048576 hK0
 obtain ⟨y,c,e1,e2,e3,hc⟩:=cfg_stc hcf
 rw [← e3] at hsm
 clear hA0 hval0
 have hp:=storesPlay_any s hs y c a0 len0 cap0 L W hc hL hL2 hL1 hsm hL3
 rw [e1] at hp
 refine hp.mono fun e W' ⟨he,bel⟩ => ?_
 subst he
 exact ⟨_,rfl,_,_,_,[],_,[],hW',trodAll_mk1 (shut_bool Tryz.underlying4 _),(trodAll_cons_mk (Below.trod laidOut (by kernel_rfl) (of_decide_eq_true (by kernel_rfl)) k0 bel lt0) (trodAll_cons_mk (Below.trod laidOut (by kernel_rfl) (of_decide_eq_true (by kernel_rfl)) k1 bel lt1) (trodAll_cons_mk (Below.trod laidOut (by kernel_rfl) (of_decide_eq_true (by kernel_rfl)) k2 bel lt2) trodAll_mk0))),rfl,bel.frame _,fun h=>by cases h⟩
theorem laid_met (os:Os):laidMet Tryz.prog Rows.storesPlayUptoRow.laid ((World.doorLaid Tryz.prog 400 os).forCall (fun _ _=>0) ⟨#[],#[.int .u8 0,.agg #[.slice none 0 0,.slice none 0 0,.slice none 0 0,.slice none 0 0,.int .u64 0],.slice none 0 0],[]⟩).memory :=
 laidMet_of_run' 8 (by kernel_rfl) (by kernel_rfl)
theorem reads (os:Os) {H:Type} (enc:TypeId × Value→H):∃ places,DataW.whole enc Tryz.prog ((World.doorLaid Tryz.prog 400 os).forCall (fun _ _=>0) ⟨#[],#[.int .u8 0,.agg #[.slice none 0 0,.slice none 0 0,.slice none 0 0,.slice none 0 0,.int .u64 0],.slice none 0 0],[]⟩).memory Tryz.f3.params.toList Rows.storesPlaySpec.vars false #[Value.int .u8 0,.agg #[.slice none 0 0,.slice none 0 0,.slice none 0 0,.slice none 0 0,.int .u64 0],.slice none 0 0].toList 8=some ([.lit (.int .u8 0),.agg [.nil,.nil,.nil,.nil,.lit (.int .u64 0)],.nil],[],places) :=
 ⟨[],by kernel_rfl⟩
theorem storesPlay_lifted (os:Os) (started:os.Started) (H:Type) (enc:TypeId × Value→H) (F:Stop.Interp) :
   ReturnsInHanded {} Tryz.checked os 3 .any ((Rows.OpenSpec.upto Rows.storesPlaySpec).preRow enc Tryz.prog Tryz.f3 Rows.storesPlayUptoRow.domain false Rows.storesPlayUptoRow.laid) (((Rows.OpenSpec.upto Rows.storesPlaySpec).at F).post enc Tryz.prog Tryz.f3 false true false false):=by
 obtain ⟨places,hx⟩:=reads os enc
 refine returnsInHanded_of_row (C:=Tryz.checked) (s:=Rows.OpenSpec.upto Rows.storesPlaySpec) own started (by kernel_rfl) Tryz.func3
   (witness_row_at (enc:=enc) (C:=Tryz.checked) false (World.doorLaid Tryz.prog 400 os) #[.int .u8 0,.agg #[.slice none 0 0,.slice none 0 0,.slice none 0 0,.slice none 0 0,.int .u64 0],.slice none 0 0] rfl (by kernel_rfl) (by kernel_rfl) (by kernel_rfl)
     (OpenSpec.preRow_of_cond 8 hx (by kernel_rfl) (fun k hk=>by cases hk;kernel_rfl) (by kernel_rfl) (laid_met os))) ?_
 intro W base args ds gs before hval hW _ hcond _ hL _ _
 exact storesPlay_contract H enc W base args ds gs before hval hW (hcond _ rfl)
theorem storesPlay_upto:Rows.StoresPlayUptoSaid :=
 OpenClaim.holds_of_cond 3 Tryz.f3 rfl rfl rfl rfl rfl rfl rfl ⟨rfl,rfl,rfl,rfl,rfl⟩ rfl rfl rfl rfl rfl (by kernel_rfl) Tryz.func3 (by kernel_rfl)
   (of_decide_eq_true (by kernel_rfl)) (by unfold Func.isWrapper;first | (rw [if_pos (by decide +kernel)];kernel_rfl) | (rw [if_neg (by decide +kernel)];exact ⟨rfl,rfl⟩))
   (fun os started H enc _ F=>by rw [OpenClaim.pre_eq_preRow];exact storesPlay_lifted os started H enc F)
theorem storesPlay_plain (f : FuncId) (fn : Func) (hf : Tryz.pinned.checked.prog.funcNamed "salesroom/salesroomlaw20.StoresPlay" = some f) (hfn : Tryz.pinned.checked.prog.funcs[f]? = some fn) :
   false=Tryz.pinned.checked.prog.looks []∧∀ (j:Nat) t,fn.params[j]?=some t→Tryz.pinned.checked.prog.wantsStandIn t=false:=by
 obtain rfl : f = 3 := Option.some.inj ((show Tryz.prog.funcNamed "salesroom/salesroomlaw20.StoresPlay" = some 3 by kernel_rfl).symm.trans hf) |>.symm
 obtain rfl:fn=Tryz.f3:=(Option.some.inj (Tryz.func3.symm.trans hfn)).symm
 refine ⟨by kernel_rfl,fun j t ht => ?_⟩
 rw [Tryz.params3] at ht
 have hm:t ∈ [5,27,28]:=by simpa using Array.mem_of_getElem? ht
 have hall:([5,27,28].all fun u => !Tryz.prog.wantsStandIn u)=true:=by kernel_rfl
 exact (show Tryz.prog.wantsStandIn t=false by simpa using List.all_eq_true.1 hall t hm)
theorem storesPlay_card:Rows.StoresPlayUptoCardSaid :=
 Claim7.holds_tied_plain_at .later [] _ _ _ _ storesPlay_upto (fun _ h=>by cases h) (by kernel_rfl) (fun _ h=>by cases h) storesPlayUpto_row_tie rfl ⟨rfl,rfl⟩ (by kernel_rfl) rfl storesPlay_plain (by kernel_rfl)
#print axioms storesPlay_card
end
end Go.Proofs.YtgbikngicidbkaaGreatDoor
