/- The package weights: best,Best;conditions: those typed. -/
import Derived.Test.YtmmmjohoihpbeaaGreatTJwVJwM
import Derived.Test.YtmmmjohoihpbeaaGreatTJmcJmdJmeJmf
import Derived.Deep.CutBlock
import Derived.Deep.DeepCutAuto
namespace Go.Proofs.YtmmmjohoihpbeaaGreat
section
open Go.RowKit Go.Shelf
set_option linter.unusedVariables false
set_option linter.unusedSimpArgs false
attribute [local go_sem] Oper.semAt_some
theorem bv_nat (a:Nat) (h:a<18446744073709551616):(BitVec.ofInt 64 (a:Int)).toNat=a:=by
 rw [BitVec.ofInt_natCast,BitVec.toNat_ofNat];exact Nat.mod_eq_of_lt (by omega)
theorem and_i64 (a b:Nat) (ha:a<9223372036854775808) (hb:b<9223372036854775808):bits .and .i64 (a:Int) (b:Int)=((a &&& b:Nat):Int):=by
 have hx:a &&& b<2 ^ 63:=Nat.and_lt_two_pow _ (by omega)
 show IntKind.i64.wrap ((BitVec.ofInt 64 (a:Int) &&& BitVec.ofInt 64 (b:Int)).toNat:Int)=_
 rw [BitVec.toNat_and,bv_nat a (by omega),bv_nat b (by omega)]
 exact IntWalk.i64_in _ (by omega)
theorem or_i64 (a b:Nat) (ha:a<9223372036854775808) (hb:b<9223372036854775808):bits .or .i64 (a:Int) (b:Int)=((a ||| b:Nat):Int):=by
 have hx:a ||| b<2 ^ 63:=Nat.or_lt_two_pow (by omega) (by omega)
 show IntKind.i64.wrap ((BitVec.ofInt 64 (a:Int) ||| BitVec.ofInt 64 (b:Int)).toNat:Int)=_
 rw [BitVec.toNat_or,bv_nat a (by omega),bv_nat b (by omega)]
 exact IntWalk.i64_in _ (by omega)
theorem andNot_i64 (a i:Nat) (ha:a<256) (hi:i<8) (h:a.testBit i=true):bits .andNot .i64 (a:Int) ((2 ^ i:Nat):Int)=((a ^^^ 2 ^ i:Nat):Int):=by
 have hp:2 ^ i<256:=Nat.lt_of_lt_of_le (Nat.pow_lt_pow_right (by decide) hi) (by decide)
 have hx:a ^^^ 2 ^ i<2 ^ 8:=Nat.xor_lt_two_pow (by omega) (by omega)
 show IntKind.i64.wrap ((BitVec.ofInt 64 (a:Int) &&& ~~~ BitVec.ofInt 64 ((2 ^ i:Nat):Int)).toNat:Int)=_
 rw [BitVec.toNat_and,BitVec.toNat_not,bv_nat a (by omega),bv_nat (2 ^ i) (by omega)]
 have e:a &&& (2 ^ 64 - 1 - 2 ^ i)=a ^^^ 2 ^ i:=by
   apply Nat.eq_of_testBit_eq
   intro j
   rw [Nat.testBit_and,show 2 ^ 64 - 1 - 2 ^ i=2 ^ 64 - (2 ^ i+1) by omega,Nat.testBit_two_pow_sub_succ (by omega),Nat.testBit_xor,Nat.testBit_two_pow]
   by_cases hj:i=j
   · subst hj;simp [h]
   · by_cases hj64:j<64
     · simp [hj,hj64]
     · have:a.testBit j=false:=Nat.testBit_lt_two_pow (Nat.lt_of_lt_of_le ha (Nat.le_trans (show 256≤2 ^ 64 by decide) (Nat.pow_le_pow_right (by decide) (by omega))))
       simp [hj,this]
 rw [e]
 exact IntWalk.i64_in _ (by omega)
theorem bit_i64 (a i:Nat) (ha:a<9223372036854775808):bits .and .i64 ((a:Int) / 2 ^ i) 1=if a.testBit i=true then 1 else 0:=by
 have e1:(a:Int) / 2 ^ i=((a / 2 ^ i:Nat):Int):=by rw [Int.natCast_ediv,Int.natCast_pow];rfl
 have hle:a / 2 ^ i≤a:=Nat.div_le_self _ _
 rw [e1]
 show bits .and .i64 _ ((1:Nat):Int)=_
 rw [and_i64 _ _ (by omega) (by decide)]
 have e2:(a / 2 ^ i) &&& 1=if a.testBit i=true then 1 else 0:=by
   rw [← Nat.shiftRight_eq_div_pow,Nat.and_comm]
   unfold Nat.testBit
   have:1 &&& a >>> i=(a >>> i) % 2:=by rw [Nat.and_comm,Nat.and_one_is_mod]
   rw [this]
   have h2:=Nat.mod_two_eq_zero_or_one (a >>> i)
   rcases h2 with h | h <;> simp [h]
 rw [e2]
 split <;> rfl
theorem pow_i64 (i:Nat) (h:i<9):wrap64 ((2:Int) ^ i)=((2 ^ i:Nat):Int):=by
 rw [Int.natCast_pow]
 have h1:(2:Nat) ^ i<512:=Nat.lt_of_lt_of_le (Nat.pow_lt_pow_right (by decide) h) (by decide)
 have h2:((2 ^ i:Nat):Int)=(2:Int) ^ i:=by rw [Int.natCast_pow];rfl
 have h3:((2 ^ i:Nat):Int)<512∧0≤((2 ^ i:Nat):Int):=⟨Int.ofNat_lt.2 h1,Int.natCast_nonneg _⟩
 rw [h2] at h3
 show wrap64 ((2:Int) ^ i)=(2:Int) ^ i
 unfold wrap64
 generalize (2:Int) ^ i=x at h3 ⊢
 omega
theorem pow_wrap (i:Nat) (h:i<8):IntKind.i64.wrap ((2:Int) ^ i)=wrap64 ((2:Int) ^ i):=by
 rw [pow_i64 i (by omega)]
 have h1:(2:Nat) ^ i<256:=Nat.lt_of_lt_of_le (Nat.pow_lt_pow_right (by decide) h) (by decide)
 have h2:((2 ^ i:Nat):Int)=(2:Int) ^ i:=by rw [Int.natCast_pow];rfl
 have h3:((2 ^ i:Nat):Int)<256∧0≤((2 ^ i:Nat):Int):=⟨Int.ofNat_lt.2 h1,Int.natCast_nonneg _⟩
 rw [← h2]
 generalize ((2 ^ i:Nat):Int)=x at h3 ⊢
 exact IntWalk.i64_in _ (by omega)
theorem zero256:(Tryz.prog.info? 89).map (·.zero)=some (some (.agg (Array.replicate 256 (.int .i64 0)))):=by kernel_rfl
theorem info256:(Tryz.prog.info? 89).map (·.size)=some 256:=by kernel_rfl
theorem zero256_cells:(Value.agg (Array.replicate 256 (.int .i64 0))).cells=fnA 256 (fun _=>0):=by rw [fnA_zero];rfl
def bF (n:Nat) (g:Nat→Nat→Int):Nat→Nat→Int
 | 0,_=>0
 | j+1,s=>if s<2 ^ n then JM.mw g (bF n g j) s j n else bF n g j s
def midF (g:Nat→Nat→Int) (was:Nat→Int) (j n who s:Nat):Int:=if s<who then JM.mw g was s j n else was s
def innF (g:Nat→Nat→Int) (was:Nat→Int) (j n who i s:Nat):Int:=if s=who then JM.mw g was who j i else midF g was j n who s
theorem midF_zero (g:Nat→Nat→Int) (was:Nat→Int) (j n:Nat):midF g was j n 0=was:=by funext s;simp [midF]
theorem midF_full (n:Nat) (g:Nat→Nat→Int) (j:Nat):midF g (bF n g j) j n (2 ^ n)=bF n g (j+1):=rfl
theorem innF_zero (g:Nat→Nat→Int) (was:Nat→Int) (j n who:Nat):innF g was j n who 0=midF g was j n who:=by
 funext s
 unfold innF
 by_cases e:s=who
 · subst e;rw [if_pos rfl];unfold midF;rw [if_neg (Nat.lt_irrefl _)];rfl
 · rw [if_neg e]
theorem innF_full (g:Nat→Nat→Int) (was:Nat→Int) (j n who:Nat):innF g was j n who n=midF g was j n (who+1):=by
 funext s
 unfold innF midF
 by_cases e:s=who
 · subst e;rw [if_pos rfl,if_pos (Nat.lt_succ_self _)]
 · rw [if_neg e]
   by_cases h:s<who
   · rw [if_pos h,if_pos (by omega)]
   · rw [if_neg h,if_neg (by omega)]
theorem innF_at (g:Nat→Nat→Int) (was:Nat→Int) (j n who i:Nat):innF g was j n who i who=JM.mw g was who j i:=by unfold innF;rw [if_pos rfl]
theorem innF_take (g:Nat→Nat→Int) (was:Nat→Int) (j n who i:Nat) (h:who.testBit i=true∧0≤g i j):innF g was j n who (i+1)=updF (innF g was j n who i) who (max (JM.mw g was who j i) (was (who ^^^ 2 ^ i)+g i j)):=by
 funext s
 unfold updF
 by_cases e:s=who
 · subst e;rw [if_pos rfl];unfold innF;rw [if_pos rfl];simp only [JM.mw];rw [if_pos h]
 · rw [if_neg e];unfold innF;rw [if_neg e,if_neg e]
theorem innF_leave (g:Nat→Nat→Int) (was:Nat→Int) (j n who i:Nat) (h:¬ (who.testBit i=true∧0≤g i j)):innF g was j n who (i+1)=innF g was j n who i:=by
 funext s
 unfold innF
 by_cases e:s=who
 · subst e;rw [if_pos rfl,if_pos rfl];simp only [JM.mw];rw [if_neg h]
 · rw [if_neg e,if_neg e]
def gL (G:List (List Int)) (i k:Nat):Int:=(G.getD i []).getD k 0
theorem getD_bd2 {l:List Int} {a b:Int} (h:∀ z ∈ l,a≤z∧z≤b) (h0:a≤0∧0≤b) (k:Nat):a≤l.getD k 0∧l.getD k 0≤b:=by
 by_cases hk:k<l.length
 · exact h _ (getD_mem hk)
 · rw [List.getD_eq_getElem?_getD,List.getElem?_eq_none (by omega)];exact h0
theorem mw_bd {g:Nat→Nat→Int} {was:Nat→Int} {B:Int} (hg:∀ i k,g i k≤1000000) (hw:∀ s,0≤was s∧was s≤B) (s k:Nat):∀ i,0≤JM.mw g was s k i∧JM.mw g was s k i≤B+1000000
 | 0=>by have:=hw s;show 0≤was s∧was s≤_;omega
 | i+1=>by
   have h:=mw_bd hg hw s k i
   have:=hw (s ^^^ 2 ^ i)
   have:=hg i k
   simp only [JM.mw]
   split <;> omega
theorem bF_bd {n:Nat} {g:Nat→Nat→Int} (hg:∀ i k,g i k≤1000000):∀ j s,0≤bF n g j s∧bF n g j s≤(j:Int)*1000000
 | 0,s=>by show (0:Int)≤0∧(0:Int)≤_;omega
 | j+1,s=>by
   have h:=bF_bd (n:=n) hg j
   have h2:=mw_bd hg h s j n
   have:=h s
   simp only [bF]
   split <;> omega
theorem gL_bd {G:List (List Int)} {K:Nat} (h:GnOk G K) (i k:Nat):-1000000≤gL G i k∧gL G i k≤1000000:=by
 unfold gL
 refine getD_bd2 (fun z hz => ?_) (by omega) k
 by_cases hi:i<G.length
 · exact (h.row _ (getD_mem hi)).2 z hz
 · rw [List.getD_eq_getElem?_getD,List.getElem?_eq_none (by omega)] at hz;cases hz
theorem isI_new (w:World) (z:Int):IsI (w.alloc (.cells #[.int .i64 z] 3 (0,0))) (some ⟨w.heap.size,0,none⟩) 1 1 [z]:=by
 refine ⟨rfl,Nat.le_refl _,by decide,.inr ⟨w.heap.size,0,rfl,by simp,fun i hi => ?_⟩⟩
 have:i=0:=by simp at hi;omega
 subst this
 rw [cell_of_block (heap_new w _)];rfl
theorem isI_fnA {w:World} {b n:Nat} {f:Nat→Int} {t:TypeId} (h:w.heap[b]?=some (.cells (fnA n f) t (0,0))) (hn:n≤maxLen):IsI w (some ⟨b,0,none⟩) n n ((List.range n).map f):=by
 refine ⟨by simp,by simp,hn,.inr ⟨b,0,rfl,lt_of_heap h,fun i hi => ?_⟩⟩
 have hi':i<n:=by simpa using hi
 rw [cell_of_block h,Nat.zero_add,fnA_get _ hi'];simp
set_option maxRecDepth 100000 in
set_option maxHeartbeats 8000000 in
theorem wbest_any (a ia:Option Addr) (n c ic:Nat) (G:List (List Int)) (K:Nat) (w:World) (h:IsII w a n c G) (hg:GnOk G K) (hi:IsI w ia K ic ((List.range K).map Int.ofNat)) :
   Calls Tryz.prog 77 #[.slice a n c,.slice ia K ic] w fun e w' => e=.returned (.int .i64 (mxL 0 ((List.range 256).map (bF G.length (gL G) K))))∧Below w.heap.size w w':=by
 obtain rfl:=h.1
 have h1:=hg.k1
 have h8:=hg.k8
 have hn:=hg.n8
 have HI:=Lib.hid h
 have HIT:=Lib.hid hi
 have HG:=Lib.hid hg
 obtain ⟨P2,hP2⟩:∃ P2:Nat,P2=2 ^ G.length:=⟨_,rfl⟩
 have hpl:P2≤256:=by rw [hP2];exact Nat.le_trans (Nat.pow_le_pow_right (by decide) hn) (by decide)
 have hsh:wrap64 (2 ^ G.length)=(P2:Int):=by
   rw [hP2];exact pow_i64 _ (by omega)
 have HP2:=Lib.hid hP2
 clear h hg hi hP2
 go_enter Tryz.func77,Tryz.ntmps77
 go_wp2_with (refine wpList_alloc_any rfl 89 rfl _ zero256 _ zero256_cells ?_)
 have hb0:Below w.heap.size w (w.alloc (.cells (fnA 256 (fun _=>0)) 89)):=(Below.refl _ _).alloc (Nat.le_refl _) _
 have hv:=heap_new w (.cells (fnA 256 (fun _=>0)) 89)
 generalize w.alloc (.cells (fnA 256 (fun _=>0)) 89)=W at hb0 hv ⊢
 have HIW:=Lib.hid (HI.out.below hb0)
 have HTW:=Lib.hid (HIT.out.below hb0)
 have HB0:=Lib.hid hb0
 have hbw:=lt_of_heap hv
 have HQ0:Hid (W.heap[w.heap.size]?=some (.cells (fnA 256 (bF G.length (gL G) 0)) 89)∧Below w.heap.size w W):=Lib.hid ⟨hv,hb0⟩
 clear hb0 hv
 go_loopw [14] (fun i wr => ∃ j:Nat,j≤K∧i=.int .i64 (j:Int)∧Hid (wr.heap[w.heap.size]?=some (.cells (fnA 256 (bF G.length (gL G) j)) 89)∧Below w.heap.size w wr)) (fun i _=>K - (intOf i).toNat)
 case atStart=>exact ⟨0,Nat.zero_le _,rfl,HQ0⟩
 case round =>
   obtain ⟨j,hj,rfl,HQ⟩:=hrel
   by_cases hlt:j<K
   · obtain ⟨b1,o1,rfl,hb1,hc1⟩:=HIT.out.at j (by simpa using hlt)
     have ck:wr.cell? ⟨b1,o1+j,none⟩=some (.int .i64 (j:Int)):=by
       have:=(HQ.out.2.cell (p:=⟨b1,o1+j,none⟩) hb1).trans hc1
       simpa using this
     have HR:=Lib.hid HQ.out.1
     clear hc1
     go_wp2_with (first
       | (refine wpList_load_row rfl 89 (.tmp 5) rfl w.heap.size rfl _ (fnA 256 (bF G.length (gL G) j)) _ _ HR.out Tryz.underlying89 rfl (by rw [info256,fnA_size]) ?_)
       | (refine wpList_declare rfl rfl 89 rfl (.tmp 8) (.tmp 18) rfl _ zero256 (fnA 256 (bF G.length (gL G) j)) (by rw [zero256_cells,fnA_size,fnA_size]) (by rw [info256,fnA_size]) rfl rfl (fnL_one _ _) ?_)
       | fail)
     have b2:Below wr.heap.size wr (wr.alloc (.cells (fnA 256 (bF G.length (gL G) j)) 89)):=(Below.refl _ _).alloc (Nat.le_refl _) _
     obtain ⟨bw,hbwe⟩:∃ bw,bw=wr.heap.size:=⟨_,rfl⟩
     have v2:(wr.alloc (.cells (fnA 256 (bF G.length (gL G) j)) 89)).heap[bw]?=some (.cells (fnA 256 (bF G.length (gL G) j)) 89):=by rw [hbwe];exact heap_new wr (.cells (fnA 256 (bF G.length (gL G) j)) 89)
     have v0:=below_heap b2 HQ.out.1 (lt_of_heap HQ.out.1)
     have hB2:=HQ.out.2.trans (b2.mono HQ.out.2.size)
     have hne:w.heap.size<bw:=by rw [hbwe];exact lt_of_heap HQ.out.1
     rw [← hbwe]
     revert b2 v2 v0 hB2
     generalize wr.alloc (.cells (fnA 256 (bF G.length (gL G) j)) 89)=W1
     generalize hwas:bF G.length (gL G) j=was
     intro b2 v2 v0 hB2
     have HWAS:=Lib.hid hwas
     have HQ1:Hid (W1.heap[w.heap.size]?=some (.cells (fnA 256 (midF (gL G) was j G.length 0)) 89)∧W1.heap[bw]?=some (.cells (fnA 256 was) 89)∧Below w.heap.size w W1):=Lib.hid ⟨by rw [midF_zero];exact v0,v2,hB2⟩
     clear hwas b2 v2 v0 hB2 HQ HR ck hbwe
     obtain ⟨wo,hwo⟩:∃ wo,wr=wo:=⟨_,rfl⟩
     go_wp2_with fail
     rw [hsh]
     go_loopw [22] (fun q wr => ∃ who:Nat,who≤P2∧q=.int .i64 (who:Int)∧Hid (wr.heap[w.heap.size]?=some (.cells (fnA 256 (midF (gL G) was j G.length who)) 89)∧wr.heap[bw]?=some (.cells (fnA 256 was) 89)∧Below w.heap.size w wr)) (fun q _=>P2 - (intOf q).toNat)
     case atStart=>exact ⟨0,Nat.zero_le _,rfl,HQ1⟩
     case round =>
       obtain ⟨who,hwho,rfl,HM⟩:=hrel
       by_cases hwl:who<P2
       · go_wp2_with fail
         have HI0:Hid (wr.heap[w.heap.size]?=some (.cells (fnA 256 (innF (gL G) was j G.length who 0)) 89)∧wr.heap[bw]?=some (.cells (fnA 256 was) 89)∧Below w.heap.size w wr):=Lib.hid ⟨by rw [innF_zero];exact HM.out.1,HM.out.2⟩
         clear HM
         go_loopw [27] (fun q wr => ∃ i:Nat,i≤G.length∧q=.int .i64 (i:Int)∧Hid (wr.heap[w.heap.size]?=some (.cells (fnA 256 (innF (gL G) was j G.length who i)) 89)∧wr.heap[bw]?=some (.cells (fnA 256 was) 89)∧Below w.heap.size w wr)) (fun q _=>G.length - (intOf q).toNat)
         case atStart=>exact ⟨0,Nat.zero_le _,rfl,HI0⟩
         case round =>
           obtain ⟨i,hil,rfl,HN⟩:=hrel
           by_cases hig:i<G.length
           · obtain ⟨b3,o3,x3,y3,z3,rfl,hb3,hc3,hI3⟩:=HI.out.at i hig
             have k3:wr.cell? ⟨b3,o3+i,none⟩=some (.slice x3 y3 z3):=(HN.out.2.2.cell (p:=⟨b3,o3+i,none⟩) hb3).trans hc3
             obtain ⟨hrl,hrb⟩:=HG.out.row _ (List.getElem_mem hig)
             have hjr:j<G[i].length:=by omega
             obtain ⟨b4,o4,rfl,hb4,hc4⟩:=(hI3.below HN.out.2.2).at j hjr
             have hzb:=hrb _ (List.getElem_mem hjr)
             have hg:gL G i j=G[i][j]:=by unfold gL;rw [getD_get hig,getD_get hjr]
             have hy3:=hI3.1
             rw [hrl] at hy3
             subst hy3
             rw [← hg] at hc4 hzb
             generalize hgg:gL G i j=gij at hc4 hzb
             have HGG:=Lib.hid hgg
             clear hgg hg hc3 hI3 hrb hrl
             have hw256:who<256:=by omega
             have hi8:i<8:=by omega
             have hshi:wrap64 ((2:Int) ^ i)=((2 ^ i:Nat):Int):=pow_i64 i (by omega)
             have ch:wr.cell? ⟨w.heap.size,who,none⟩=some (.int .i64 (JM.mw (gL G) was who j i)):=by rw [cell_of_block HN.out.1,fnA_get _ hw256,innF_at]
             have zh:wr.frozen? ⟨w.heap.size,who,none⟩=false:=blk_free HN.out.1
             go_upto_block 5 with fail
             go_cut [27] (fun s wx=>s=.int .i64 (i:Int)∧Hid (wx.heap[w.heap.size]?=some (.cells (fnA 256 (innF (gL G) was j G.length who (i+1))) 89)∧wx.heap[bw]?=some (.cells (fnA 256 was) 89)∧Below w.heap.size w wx))
             case first =>
               cases hbt:who.testBit i with
               | false =>
                 have hb0:bits .and .i64 ((who:Int) / 2 ^ i) 1=0:=by rw [bit_i64 _ _ (by omega),hbt];rfl
                 have HE:Hid (innF (gL G) was j G.length who (i+1)=innF (gL G) was j G.length who i):=Lib.hid (innF_leave _ _ _ _ _ _ (fun e=>by rw [hbt] at e;cases e.1))
                 clear hbt hshi
                 go_wp2_with fail
                 go_meet
                 exact ⟨rfl,by rw [HE.out];exact HN⟩
               | true =>
                 have hb1:bits .and .i64 ((who:Int) / 2 ^ i) 1=1:=by rw [bit_i64 _ _ (by omega),hbt];rfl
                 by_cases hg0:0≤gij
                 · have d0:decide (0≤gij)=true:=decide_eq_true hg0
                   have hx256:who ^^^ 2 ^ i<256:=Nat.xor_lt_two_pow (n:=8) (by omega) (Nat.pow_lt_pow_right (by decide) hi8)
                   have han:bits .andNot .i64 (who:Int) ((2 ^ i:Nat):Int)=((who ^^^ 2 ^ i:Nat):Int):=andNot_i64 who i hw256 hi8 hbt
                   have han2:bits .andNot .i64 (who:Int) (IntKind.i64.wrap ((2:Int) ^ i))=((who ^^^ 2 ^ i:Nat):Int):=by
                     have h9:IntKind.i64.wrap ((2:Int) ^ i)=((2 ^ i:Nat):Int):=by
                       rw [← hshi]
                       exact pow_wrap i hi8
                     rw [h9];exact han
                   have cw:wr.cell? ⟨bw,who ^^^ 2 ^ i,none⟩=some (.int .i64 (was (who ^^^ 2 ^ i))):=by rw [cell_of_block HN.out.2.1,fnA_get _ hx256]
                   have HE:Hid (innF (gL G) was j G.length who (i+1)=updF (innF (gL G) was j G.length who i) who (max (JM.mw (gL G) was who j i) (was (who ^^^ 2 ^ i)+gij))):=Lib.hid (by rw [innF_take _ _ _ _ _ _ ⟨hbt,by rw [HGG.out];exact hg0⟩,HGG.out])
                   generalize who ^^^ 2 ^ i=wx at han han2 cw HE hx256
                   have hwb:0≤was wx∧was wx≤8000000:=by
                     have:=bF_bd (n:=G.length) (g:=gL G) (fun i k=>(gL_bd HG.out i k).2) j wx
                     rw [HWAS.out] at this
                     omega
                   generalize was wx=ww at cw HE hwb
                   generalize JM.mw (gL G) was who j i=mv at ch HE
                   have HSUM:Hid (mxL mv [ww+gij]=max mv (ww+gij)):=Lib.hid rfl
                   have hAl:∀ o,(wr.alloc o).cell? ⟨w.heap.size,who,none⟩=some (.int .i64 mv):=fun o=>cell_alloc ch o
                   have zAl:∀ o,(wr.alloc o).frozen? ⟨w.heap.size,who,none⟩=false:=fun o=>blk_free (below_heap ((Below.refl wr.heap.size wr).alloc (Nat.le_refl _) o) HN.out.1 (lt_of_heap HN.out.1))
                   have hwr:IntKind.i64.wrap (ww+gij)=ww+gij:=IntWalk.i64_in _ (by omega)
                   have di1:decide ((who:Int)<256)=true:=decide_eq_true (by omega)
                   have di2:decide (who<256)=true:=decide_eq_true hw256
                   have di3:decide ((wx:Int)<256)=true:=decide_eq_true (by omega)
                   have di4:decide (wx<256)=true:=decide_eq_true hx256
                   have di5:(who:Int)<256:=by omega
                   have di6:(wx:Int)<256:=by omega
                   have hAd:∀ o,(wr.drew.alloc o).cell? ⟨w.heap.size,who,none⟩=some (.int .i64 mv):=fun o=>cell_alloc ch o
                   have zAd:∀ o,(wr.drew.alloc o).frozen? ⟨w.heap.size,who,none⟩=false:=zAl
                   have hAe:∀ o,((wr.alloc o).drew).cell? ⟨w.heap.size,who,none⟩=some (.int .i64 mv):=hAl
                   have zAe:∀ o,((wr.alloc o).drew).frozen? ⟨w.heap.size,who,none⟩=false:=zAl
                   clear hbt hg0
                   have HFIN:∀ o,((wr.alloc o).setCell ⟨w.heap.size,who,none⟩ (.int .i64 (mxL mv [ww+gij]))).heap[w.heap.size]?=some (.cells (fnA 256 (innF (gL G) was j G.length who (i+1))) 89)∧((wr.alloc o).setCell ⟨w.heap.size,who,none⟩ (.int .i64 (mxL mv [ww+gij]))).heap[bw]?=some (.cells (fnA 256 was) 89)∧Below w.heap.size w ((wr.alloc o).setCell ⟨w.heap.size,who,none⟩ (.int .i64 (mxL mv [ww+gij]))):=fun o=>by
                     have hb:=(Below.refl wr.heap.size wr).alloc (Nat.le_refl _) o
                     have e1:=heap_setCell_same (wr.alloc o) w.heap.size who _ _ (.int .i64 (mxL mv [ww+gij])) (below_heap hb HN.out.1 (lt_of_heap HN.out.1))
                     rw [fnA_set _ hw256,HSUM.out,← HE.out] at e1
                     refine ⟨by rw [HSUM.out];exact e1,(Below.heap_setCell _ ⟨w.heap.size,who,none⟩ _ bw (by show bw≠w.heap.size;omega)).trans (below_heap hb HN.out.2.1 (lt_of_heap HN.out.2.1)),(HN.out.2.2.trans (hb.mono HN.out.2.2.size)).setCell (p:=⟨w.heap.size,who,none⟩) (Nat.le_refl _) _⟩
                   have HFI:=Lib.hid HFIN
                   clear HFIN
                   go_wp2_with fail
                   go_region_law (first
                     | (go_simp;go_at_call 94;refine (most_any2 mv _ 1 1 [ww+gij] _ (by first | exact isI_new _ _ | exact (isI_new _ _).below (Below.refl _ _).drew)).mono ?_;rintro e w' ⟨rfl,rfl⟩)
                     | fail)
                   all_goals
                     clear hAl zAl hAd zAd hAe zAe
                     go_wp2_with fail
                     go_meet
                     exact ⟨rfl,Lib.hid ⟨(HFI.out _).1,(HFI.out _).2.1,(HFI.out _).2.2.drew⟩⟩
                 · have d0:decide (0≤gij)=false:=decide_eq_false hg0
                   have HE:Hid (innF (gL G) was j G.length who (i+1)=innF (gL G) was j G.length who i):=Lib.hid (innF_leave _ _ _ _ _ _ (fun e=>hg0 (by rw [← HGG.out];exact e.2)))
                   clear hbt hshi hg0
                   go_wp2_with fail
                   go_meet
                   exact ⟨rfl,by rw [HE.out];exact HN⟩
             case rest =>
               obtain ⟨rfl,HF⟩:=hcut
               clear k3 hc4 ch zh hshi
               go_wp2_with fail
               go_roundw
               case rel=>exact ⟨i+1,by omega,by go_num,HF⟩
               case measure=>simp [intOf];omega
           · have hii:i=G.length:=by omega
             subst hii
             go_wp2_with fail
             go_roundw
             case rel=>exact ⟨who+1,by omega,by go_num,by rw [← innF_full];exact HN⟩
             case measure=>simp [intOf];omega
       · have hww:who=P2:=by omega
         subst hww
         have HE:Hid (midF (gL G) was j G.length who=bF G.length (gL G) (j+1)):=Lib.hid (by rw [HP2.out,← HWAS.out];exact midF_full _ _ _)
         go_wp2_with fail
         go_roundw
         case rel=>exact ⟨j+1,by omega,by go_num,by rw [← HE.out];exact Lib.hid ⟨HM.out.1,HM.out.2.2⟩⟩
         case measure=>simp [intOf];omega
   · have hjj:j=K:=by omega
     subst hjj
     go_wp2_with fail
     refine (most_any2 0 (some ⟨w.heap.size,0,none⟩) 256 256 ((List.range 256).map (bF G.length (gL G) j)) wr (isI_fnA HQ.out.1 (by decide))).mono ?_;rintro e w' ⟨rfl,rfl⟩
     have HB:=Lib.hid HQ.out.2
     obtain ⟨v,hv⟩:∃ v,mxL 0 ((List.range 256).map (bF G.length (gL G) j))=v:=⟨_,rfl⟩
     have HV:=Lib.hid hv
     rw [hv]
     clear hv
     go_wp2_with fail
     go_ret
     exact ⟨by rw [HV.out];rfl,HB.out⟩
end
end Go.Proofs.YtmmmjohoihpbeaaGreat
