/- The package weights: best,Best;conditions: those typed. -/
import Derived.Test.YtmmmjohoihpbeaaGreatQOJwVJwMJwW
import Derived.Test.YtmmmjohoihpbeaaGreatQOJmcJmdJmeJmf
import Derived.Deep.CutBlock
import Derived.Deep.DeepCutAuto
import Derived.Test.YtmmmjohoihpbeaaGreatQOJrAJrT
import Derived.Test.YtmmmjohoihpbeaaGreatQOJmgJmlJmnJwL
namespace Go.Proofs.YtmmmjohoihpbeaaGreat
section
open Go.RowKit Go.Shelf
set_option linter.unusedVariables false
set_option linter.unusedSimpArgs false
attribute [local go_sem] Oper.semAt_some
theorem bv_nat (a:Nat) (h:a<18446744073709551616):(BitVec.ofInt 64 (a:Int)).toNat=a:=by
 rw [BitVec.ofInt_natCast,BitVec.toNat_ofNat];exact Nat.mod_eq_of_lt (by omega)
theorem and_i64 (a b:Nat) (ha:a<9223372036854775808) (hb:b<9223372036854775808):bits .and .i64 (a:Int) (b:Int)=((a &&& b:Nat):Int):=by
 have hx:a &&& b<2 ^ 63:=Nat.and_lt_two_pow _ (by omega)
 show IntKind.i64.wrap ((BitVec.ofInt 64 (a:Int) &&& BitVec.ofInt 64 (b:Int)).toNat:Int)=_
 rw [BitVec.toNat_and,bv_nat a (by omega),bv_nat b (by omega)]
 exact IntWalk.i64_in _ (by omega)
theorem or_i64 (a b:Nat) (ha:a<9223372036854775808) (hb:b<9223372036854775808):bits .or .i64 (a:Int) (b:Int)=((a ||| b:Nat):Int):=by
 have hx:a ||| b<2 ^ 63:=Nat.or_lt_two_pow (by omega) (by omega)
 show IntKind.i64.wrap ((BitVec.ofInt 64 (a:Int) ||| BitVec.ofInt 64 (b:Int)).toNat:Int)=_
 rw [BitVec.toNat_or,bv_nat a (by omega),bv_nat b (by omega)]
 exact IntWalk.i64_in _ (by omega)
theorem andNot_i64 (a i:Nat) (ha:a<256) (hi:i<8) (h:a.testBit i=true):bits .andNot .i64 (a:Int) ((2 ^ i:Nat):Int)=((a ^^^ 2 ^ i:Nat):Int):=by
 have hp:2 ^ i<256:=Nat.lt_of_lt_of_le (Nat.pow_lt_pow_right (by decide) hi) (by decide)
 have hx:a ^^^ 2 ^ i<2 ^ 8:=Nat.xor_lt_two_pow (by omega) (by omega)
 show IntKind.i64.wrap ((BitVec.ofInt 64 (a:Int) &&& ~~~ BitVec.ofInt 64 ((2 ^ i:Nat):Int)).toNat:Int)=_
 rw [BitVec.toNat_and,BitVec.toNat_not,bv_nat a (by omega),bv_nat (2 ^ i) (by omega)]
 have e:a &&& (2 ^ 64 - 1 - 2 ^ i)=a ^^^ 2 ^ i:=by
   apply Nat.eq_of_testBit_eq
   intro j
   rw [Nat.testBit_and,show 2 ^ 64 - 1 - 2 ^ i=2 ^ 64 - (2 ^ i+1) by omega,Nat.testBit_two_pow_sub_succ (by omega),Nat.testBit_xor,Nat.testBit_two_pow]
   by_cases hj:i=j
   · subst hj;simp [h]
   · by_cases hj64:j<64
     · simp [hj,hj64]
     · have:a.testBit j=false:=Nat.testBit_lt_two_pow (Nat.lt_of_lt_of_le ha (Nat.le_trans (show 256≤2 ^ 64 by decide) (Nat.pow_le_pow_right (by decide) (by omega))))
       simp [hj,this]
 rw [e]
 exact IntWalk.i64_in _ (by omega)
theorem bit_i64 (a i:Nat) (ha:a<9223372036854775808):bits .and .i64 ((a:Int) / 2 ^ i) 1=if a.testBit i=true then 1 else 0:=by
 have e1:(a:Int) / 2 ^ i=((a / 2 ^ i:Nat):Int):=by rw [Int.natCast_ediv,Int.natCast_pow];rfl
 have hle:a / 2 ^ i≤a:=Nat.div_le_self _ _
 rw [e1]
 show bits .and .i64 _ ((1:Nat):Int)=_
 rw [and_i64 _ _ (by omega) (by decide)]
 have e2:(a / 2 ^ i) &&& 1=if a.testBit i=true then 1 else 0:=by
   rw [← Nat.shiftRight_eq_div_pow,Nat.and_comm]
   unfold Nat.testBit
   have:1 &&& a >>> i=(a >>> i) % 2:=by rw [Nat.and_comm,Nat.and_one_is_mod]
   rw [this]
   have h2:=Nat.mod_two_eq_zero_or_one (a >>> i)
   rcases h2 with h | h <;> simp [h]
 rw [e2]
 split <;> rfl
theorem pow_i64 (i:Nat) (h:i<9):wrap64 ((2:Int) ^ i)=((2 ^ i:Nat):Int):=by
 rw [Int.natCast_pow]
 have h1:(2:Nat) ^ i<512:=Nat.lt_of_lt_of_le (Nat.pow_lt_pow_right (by decide) h) (by decide)
 have h2:((2 ^ i:Nat):Int)=(2:Int) ^ i:=by rw [Int.natCast_pow];rfl
 have h3:((2 ^ i:Nat):Int)<512∧0≤((2 ^ i:Nat):Int):=⟨Int.ofNat_lt.2 h1,Int.natCast_nonneg _⟩
 rw [h2] at h3
 show wrap64 ((2:Int) ^ i)=(2:Int) ^ i
 unfold wrap64
 generalize (2:Int) ^ i=x at h3 ⊢
 omega
theorem pow_wrap (i:Nat) (h:i<8):IntKind.i64.wrap ((2:Int) ^ i)=wrap64 ((2:Int) ^ i):=by
 rw [pow_i64 i (by omega)]
 have h1:(2:Nat) ^ i<256:=Nat.lt_of_lt_of_le (Nat.pow_lt_pow_right (by decide) h) (by decide)
 have h2:((2 ^ i:Nat):Int)=(2:Int) ^ i:=by rw [Int.natCast_pow];rfl
 have h3:((2 ^ i:Nat):Int)<256∧0≤((2 ^ i:Nat):Int):=⟨Int.ofNat_lt.2 h1,Int.natCast_nonneg _⟩
 rw [← h2]
 generalize ((2 ^ i:Nat):Int)=x at h3 ⊢
 exact IntWalk.i64_in _ (by omega)
theorem zero256:(Tryz.prog.info? 89).map (·.zero)=some (some (.agg (Array.replicate 256 (.int .i64 0)))):=by kernel_rfl
theorem info256:(Tryz.prog.info? 89).map (·.size)=some 256:=by kernel_rfl
theorem zero256_cells:(Value.agg (Array.replicate 256 (.int .i64 0))).cells=fnA 256 (fun _=>0):=by rw [fnA_zero];rfl
def bF (n:Nat) (g:Nat→Nat→Int):Nat→Nat→Int
 | 0,_=>0
 | j+1,s=>if s<2 ^ n then JM.mw g (bF n g j) s j n else bF n g j s
def midF (g:Nat→Nat→Int) (was:Nat→Int) (j n who s:Nat):Int:=if s<who then JM.mw g was s j n else was s
def innF (g:Nat→Nat→Int) (was:Nat→Int) (j n who i s:Nat):Int:=if s=who then JM.mw g was who j i else midF g was j n who s
theorem midF_zero (g:Nat→Nat→Int) (was:Nat→Int) (j n:Nat):midF g was j n 0=was:=by funext s;simp [midF]
theorem midF_full (n:Nat) (g:Nat→Nat→Int) (j:Nat):midF g (bF n g j) j n (2 ^ n)=bF n g (j+1):=rfl
theorem innF_zero (g:Nat→Nat→Int) (was:Nat→Int) (j n who:Nat):innF g was j n who 0=midF g was j n who:=by
 funext s
 unfold innF
 by_cases e:s=who
 · subst e;rw [if_pos rfl];unfold midF;rw [if_neg (Nat.lt_irrefl _)];rfl
 · rw [if_neg e]
theorem innF_full (g:Nat→Nat→Int) (was:Nat→Int) (j n who:Nat):innF g was j n who n=midF g was j n (who+1):=by
 funext s
 unfold innF midF
 by_cases e:s=who
 · subst e;rw [if_pos rfl,if_pos (Nat.lt_succ_self _)]
 · rw [if_neg e]
   by_cases h:s<who
   · rw [if_pos h,if_pos (by omega)]
   · rw [if_neg h,if_neg (by omega)]
theorem innF_at (g:Nat→Nat→Int) (was:Nat→Int) (j n who i:Nat):innF g was j n who i who=JM.mw g was who j i:=by unfold innF;rw [if_pos rfl]
theorem innF_take (g:Nat→Nat→Int) (was:Nat→Int) (j n who i:Nat) (h:who.testBit i=true∧0≤g i j):innF g was j n who (i+1)=updF (innF g was j n who i) who (max (JM.mw g was who j i) (was (who ^^^ 2 ^ i)+g i j)):=by
 funext s
 unfold updF
 by_cases e:s=who
 · subst e;rw [if_pos rfl];unfold innF;rw [if_pos rfl];simp only [JM.mw];rw [if_pos h]
 · rw [if_neg e];unfold innF;rw [if_neg e,if_neg e]
theorem innF_leave (g:Nat→Nat→Int) (was:Nat→Int) (j n who i:Nat) (h:¬ (who.testBit i=true∧0≤g i j)):innF g was j n who (i+1)=innF g was j n who i:=by
 funext s
 unfold innF
 by_cases e:s=who
 · subst e;rw [if_pos rfl,if_pos rfl];simp only [JM.mw];rw [if_neg h]
 · rw [if_neg e,if_neg e]
def gL (G:List (List Int)) (i k:Nat):Int:=(G.getD i []).getD k 0
theorem getD_bd2 {l:List Int} {a b:Int} (h:∀ z ∈ l,a≤z∧z≤b) (h0:a≤0∧0≤b) (k:Nat):a≤l.getD k 0∧l.getD k 0≤b:=by
 by_cases hk:k<l.length
 · exact h _ (getD_mem hk)
 · rw [List.getD_eq_getElem?_getD,List.getElem?_eq_none (by omega)];exact h0
theorem mw_bd {g:Nat→Nat→Int} {was:Nat→Int} {B:Int} (hg:∀ i k,g i k≤1000000) (hw:∀ s,0≤was s∧was s≤B) (s k:Nat):∀ i,0≤JM.mw g was s k i∧JM.mw g was s k i≤B+1000000
 | 0=>by have:=hw s;show 0≤was s∧was s≤_;omega
 | i+1=>by
   have h:=mw_bd hg hw s k i
   have:=hw (s ^^^ 2 ^ i)
   have:=hg i k
   simp only [JM.mw]
   split <;> omega
theorem bF_bd {n:Nat} {g:Nat→Nat→Int} (hg:∀ i k,g i k≤1000000):∀ j s,0≤bF n g j s∧bF n g j s≤(j:Int)*1000000
 | 0,s=>by show (0:Int)≤0∧(0:Int)≤_;omega
 | j+1,s=>by
   have h:=bF_bd (n:=n) hg j
   have h2:=mw_bd hg h s j n
   have:=h s
   simp only [bF]
   split <;> omega
theorem gL_bd {G:List (List Int)} {K:Nat} (h:GnOk G K) (i k:Nat):-1000000≤gL G i k∧gL G i k≤1000000:=by
 unfold gL
 refine getD_bd2 (fun z hz => ?_) (by omega) k
 by_cases hi:i<G.length
 · exact (h.row _ (getD_mem hi)).2 z hz
 · rw [List.getD_eq_getElem?_getD,List.getElem?_eq_none (by omega)] at hz;cases hz
theorem isI_new (w:World) (z:Int):IsI (w.alloc (.cells #[.int .i64 z] 3 (0,0))) (some ⟨w.heap.size,0,none⟩) 1 1 [z]:=by
 refine ⟨rfl,Nat.le_refl _,by decide,.inr ⟨w.heap.size,0,rfl,by simp,fun i hi => ?_⟩⟩
 have:i=0:=by simp at hi;omega
 subst this
 rw [cell_of_block (heap_new w _)];rfl
theorem isI_fnA {w:World} {b n:Nat} {f:Nat→Int} {t:TypeId} (h:w.heap[b]?=some (.cells (fnA n f) t (0,0))) (hn:n≤maxLen):IsI w (some ⟨b,0,none⟩) n n ((List.range n).map f):=by
 refine ⟨by simp,by simp,hn,.inr ⟨b,0,rfl,lt_of_heap h,fun i hi => ?_⟩⟩
 have hi':i<n:=by simpa using hi
 rw [cell_of_block h,Nat.zero_add,fnA_get _ hi'];simp
set_option maxRecDepth 100000 in
set_option maxHeartbeats 8000000 in
theorem wbest_any (a ia:Option Addr) (n c ic:Nat) (G:List (List Int)) (K:Nat) (w:World) (h:IsII w a n c G) (hg:GnOk G K) (hi:IsI w ia K ic ((List.range K).map Int.ofNat)) :
   Calls Tryz.prog 77 #[.slice a n c,.slice ia K ic] w fun e w' => e=.returned (.int .i64 (mxL 0 ((List.range 256).map (bF G.length (gL G) K))))∧Below w.heap.size w w':=by
 obtain rfl:=h.1
 have h1:=hg.k1
 have h8:=hg.k8
 have hn:=hg.n8
 have HI:=Lib.hid h
 have HIT:=Lib.hid hi
 have HG:=Lib.hid hg
 obtain ⟨P2,hP2⟩:∃ P2:Nat,P2=2 ^ G.length:=⟨_,rfl⟩
 have hpl:P2≤256:=by rw [hP2];exact Nat.le_trans (Nat.pow_le_pow_right (by decide) hn) (by decide)
 have hsh:wrap64 (2 ^ G.length)=(P2:Int):=by
   rw [hP2];exact pow_i64 _ (by omega)
 have HP2:=Lib.hid hP2
 clear h hg hi hP2
 go_enter Tryz.func77,Tryz.ntmps77
 go_wp2_with (refine wpList_alloc_any rfl 89 rfl _ zero256 _ zero256_cells ?_)
 have hb0:Below w.heap.size w (w.alloc (.cells (fnA 256 (fun _=>0)) 89)):=(Below.refl _ _).alloc (Nat.le_refl _) _
 have hv:=heap_new w (.cells (fnA 256 (fun _=>0)) 89)
 generalize w.alloc (.cells (fnA 256 (fun _=>0)) 89)=W at hb0 hv ⊢
 have HIW:=Lib.hid (HI.out.below hb0)
 have HTW:=Lib.hid (HIT.out.below hb0)
 have HB0:=Lib.hid hb0
 have hbw:=lt_of_heap hv
 have HQ0:Hid (W.heap[w.heap.size]?=some (.cells (fnA 256 (bF G.length (gL G) 0)) 89)∧Below w.heap.size w W):=Lib.hid ⟨hv,hb0⟩
 clear hb0 hv
 go_loopw [14] (fun i wr => ∃ j:Nat,j≤K∧i=.int .i64 (j:Int)∧Hid (wr.heap[w.heap.size]?=some (.cells (fnA 256 (bF G.length (gL G) j)) 89)∧Below w.heap.size w wr)) (fun i _=>K - (intOf i).toNat)
 case atStart=>exact ⟨0,Nat.zero_le _,rfl,HQ0⟩
 case round =>
   obtain ⟨j,hj,rfl,HQ⟩:=hrel
   by_cases hlt:j<K
   · obtain ⟨b1,o1,rfl,hb1,hc1⟩:=HIT.out.at j (by simpa using hlt)
     have ck:wr.cell? ⟨b1,o1+j,none⟩=some (.int .i64 (j:Int)):=by
       have:=(HQ.out.2.cell (p:=⟨b1,o1+j,none⟩) hb1).trans hc1
       simpa using this
     have HR:=Lib.hid HQ.out.1
     clear hc1
     go_wp2_with (first
       | (refine wpList_load_row rfl 89 (.tmp 5) rfl w.heap.size rfl _ (fnA 256 (bF G.length (gL G) j)) _ _ HR.out Tryz.underlying89 rfl (by rw [info256,fnA_size]) ?_)
       | (refine wpList_declare rfl rfl 89 rfl (.tmp 8) (.tmp 18) rfl _ zero256 (fnA 256 (bF G.length (gL G) j)) (by rw [zero256_cells,fnA_size,fnA_size]) (by rw [info256,fnA_size]) rfl rfl (fnL_one _ _) ?_)
       | fail)
     have b2:Below wr.heap.size wr (wr.alloc (.cells (fnA 256 (bF G.length (gL G) j)) 89)):=(Below.refl _ _).alloc (Nat.le_refl _) _
     obtain ⟨bw,hbwe⟩:∃ bw,bw=wr.heap.size:=⟨_,rfl⟩
     have v2:(wr.alloc (.cells (fnA 256 (bF G.length (gL G) j)) 89)).heap[bw]?=some (.cells (fnA 256 (bF G.length (gL G) j)) 89):=by rw [hbwe];exact heap_new wr (.cells (fnA 256 (bF G.length (gL G) j)) 89)
     have v0:=below_heap b2 HQ.out.1 (lt_of_heap HQ.out.1)
     have hB2:=HQ.out.2.trans (b2.mono HQ.out.2.size)
     have hne:w.heap.size<bw:=by rw [hbwe];exact lt_of_heap HQ.out.1
     rw [← hbwe]
     revert b2 v2 v0 hB2
     generalize wr.alloc (.cells (fnA 256 (bF G.length (gL G) j)) 89)=W1
     generalize hwas:bF G.length (gL G) j=was
     intro b2 v2 v0 hB2
     have HWAS:=Lib.hid hwas
     have HQ1:Hid (W1.heap[w.heap.size]?=some (.cells (fnA 256 (midF (gL G) was j G.length 0)) 89)∧W1.heap[bw]?=some (.cells (fnA 256 was) 89)∧Below w.heap.size w W1):=Lib.hid ⟨by rw [midF_zero];exact v0,v2,hB2⟩
     clear hwas b2 v2 v0 hB2 HQ HR ck hbwe
     obtain ⟨wo,hwo⟩:∃ wo,wr=wo:=⟨_,rfl⟩
     go_wp2_with fail
     rw [hsh]
     go_loopw [22] (fun q wr => ∃ who:Nat,who≤P2∧q=.int .i64 (who:Int)∧Hid (wr.heap[w.heap.size]?=some (.cells (fnA 256 (midF (gL G) was j G.length who)) 89)∧wr.heap[bw]?=some (.cells (fnA 256 was) 89)∧Below w.heap.size w wr)) (fun q _=>P2 - (intOf q).toNat)
     case atStart=>exact ⟨0,Nat.zero_le _,rfl,HQ1⟩
     case round =>
       obtain ⟨who,hwho,rfl,HM⟩:=hrel
       by_cases hwl:who<P2
       · go_wp2_with fail
         have HI0:Hid (wr.heap[w.heap.size]?=some (.cells (fnA 256 (innF (gL G) was j G.length who 0)) 89)∧wr.heap[bw]?=some (.cells (fnA 256 was) 89)∧Below w.heap.size w wr):=Lib.hid ⟨by rw [innF_zero];exact HM.out.1,HM.out.2⟩
         clear HM
         go_loopw [27] (fun q wr => ∃ i:Nat,i≤G.length∧q=.int .i64 (i:Int)∧Hid (wr.heap[w.heap.size]?=some (.cells (fnA 256 (innF (gL G) was j G.length who i)) 89)∧wr.heap[bw]?=some (.cells (fnA 256 was) 89)∧Below w.heap.size w wr)) (fun q _=>G.length - (intOf q).toNat)
         case atStart=>exact ⟨0,Nat.zero_le _,rfl,HI0⟩
         case round =>
           obtain ⟨i,hil,rfl,HN⟩:=hrel
           by_cases hig:i<G.length
           · obtain ⟨b3,o3,x3,y3,z3,rfl,hb3,hc3,hI3⟩:=HI.out.at i hig
             have k3:wr.cell? ⟨b3,o3+i,none⟩=some (.slice x3 y3 z3):=(HN.out.2.2.cell (p:=⟨b3,o3+i,none⟩) hb3).trans hc3
             obtain ⟨hrl,hrb⟩:=HG.out.row _ (List.getElem_mem hig)
             have hjr:j<G[i].length:=by omega
             obtain ⟨b4,o4,rfl,hb4,hc4⟩:=(hI3.below HN.out.2.2).at j hjr
             have hzb:=hrb _ (List.getElem_mem hjr)
             have hg:gL G i j=G[i][j]:=by unfold gL;rw [getD_get hig,getD_get hjr]
             have hy3:=hI3.1
             rw [hrl] at hy3
             subst hy3
             rw [← hg] at hc4 hzb
             generalize hgg:gL G i j=gij at hc4 hzb
             have HGG:=Lib.hid hgg
             clear hgg hg hc3 hI3 hrb hrl
             have hw256:who<256:=by omega
             have hi8:i<8:=by omega
             have hshi:wrap64 ((2:Int) ^ i)=((2 ^ i:Nat):Int):=pow_i64 i (by omega)
             have ch:wr.cell? ⟨w.heap.size,who,none⟩=some (.int .i64 (JM.mw (gL G) was who j i)):=by rw [cell_of_block HN.out.1,fnA_get _ hw256,innF_at]
             have zh:wr.frozen? ⟨w.heap.size,who,none⟩=false:=blk_free HN.out.1
             go_upto_block 5 with fail
             go_cut [27] (fun s wx=>s=.int .i64 (i:Int)∧Hid (wx.heap[w.heap.size]?=some (.cells (fnA 256 (innF (gL G) was j G.length who (i+1))) 89)∧wx.heap[bw]?=some (.cells (fnA 256 was) 89)∧Below w.heap.size w wx))
             case first =>
               cases hbt:who.testBit i with
               | false =>
                 have hb0:bits .and .i64 ((who:Int) / 2 ^ i) 1=0:=by rw [bit_i64 _ _ (by omega),hbt];rfl
                 have HE:Hid (innF (gL G) was j G.length who (i+1)=innF (gL G) was j G.length who i):=Lib.hid (innF_leave _ _ _ _ _ _ (fun e=>by rw [hbt] at e;cases e.1))
                 clear hbt hshi
                 go_wp2_with fail
                 go_meet
                 exact ⟨rfl,by rw [HE.out];exact HN⟩
               | true =>
                 have hb1:bits .and .i64 ((who:Int) / 2 ^ i) 1=1:=by rw [bit_i64 _ _ (by omega),hbt];rfl
                 by_cases hg0:0≤gij
                 · have d0:decide (0≤gij)=true:=decide_eq_true hg0
                   have hx256:who ^^^ 2 ^ i<256:=Nat.xor_lt_two_pow (n:=8) (by omega) (Nat.pow_lt_pow_right (by decide) hi8)
                   have han:bits .andNot .i64 (who:Int) ((2 ^ i:Nat):Int)=((who ^^^ 2 ^ i:Nat):Int):=andNot_i64 who i hw256 hi8 hbt
                   have han2:bits .andNot .i64 (who:Int) (IntKind.i64.wrap ((2:Int) ^ i))=((who ^^^ 2 ^ i:Nat):Int):=by
                     have h9:IntKind.i64.wrap ((2:Int) ^ i)=((2 ^ i:Nat):Int):=by
                       rw [← hshi]
                       exact pow_wrap i hi8
                     rw [h9];exact han
                   have cw:wr.cell? ⟨bw,who ^^^ 2 ^ i,none⟩=some (.int .i64 (was (who ^^^ 2 ^ i))):=by rw [cell_of_block HN.out.2.1,fnA_get _ hx256]
                   have HE:Hid (innF (gL G) was j G.length who (i+1)=updF (innF (gL G) was j G.length who i) who (max (JM.mw (gL G) was who j i) (was (who ^^^ 2 ^ i)+gij))):=Lib.hid (by rw [innF_take _ _ _ _ _ _ ⟨hbt,by rw [HGG.out];exact hg0⟩,HGG.out])
                   generalize who ^^^ 2 ^ i=wx at han han2 cw HE hx256
                   have hwb:0≤was wx∧was wx≤8000000:=by
                     have:=bF_bd (n:=G.length) (g:=gL G) (fun i k=>(gL_bd HG.out i k).2) j wx
                     rw [HWAS.out] at this
                     omega
                   generalize was wx=ww at cw HE hwb
                   generalize JM.mw (gL G) was who j i=mv at ch HE
                   have HSUM:Hid (mxL mv [ww+gij]=max mv (ww+gij)):=Lib.hid rfl
                   have hAl:∀ o,(wr.alloc o).cell? ⟨w.heap.size,who,none⟩=some (.int .i64 mv):=fun o=>cell_alloc ch o
                   have zAl:∀ o,(wr.alloc o).frozen? ⟨w.heap.size,who,none⟩=false:=fun o=>blk_free (below_heap ((Below.refl wr.heap.size wr).alloc (Nat.le_refl _) o) HN.out.1 (lt_of_heap HN.out.1))
                   have hwr:IntKind.i64.wrap (ww+gij)=ww+gij:=IntWalk.i64_in _ (by omega)
                   have di1:decide ((who:Int)<256)=true:=decide_eq_true (by omega)
                   have di2:decide (who<256)=true:=decide_eq_true hw256
                   have di3:decide ((wx:Int)<256)=true:=decide_eq_true (by omega)
                   have di4:decide (wx<256)=true:=decide_eq_true hx256
                   have di5:(who:Int)<256:=by omega
                   have di6:(wx:Int)<256:=by omega
                   have hAd:∀ o,(wr.drew.alloc o).cell? ⟨w.heap.size,who,none⟩=some (.int .i64 mv):=fun o=>cell_alloc ch o
                   have zAd:∀ o,(wr.drew.alloc o).frozen? ⟨w.heap.size,who,none⟩=false:=zAl
                   have hAe:∀ o,((wr.alloc o).drew).cell? ⟨w.heap.size,who,none⟩=some (.int .i64 mv):=hAl
                   have zAe:∀ o,((wr.alloc o).drew).frozen? ⟨w.heap.size,who,none⟩=false:=zAl
                   clear hbt hg0
                   have HFIN:∀ o,((wr.alloc o).setCell ⟨w.heap.size,who,none⟩ (.int .i64 (mxL mv [ww+gij]))).heap[w.heap.size]?=some (.cells (fnA 256 (innF (gL G) was j G.length who (i+1))) 89)∧((wr.alloc o).setCell ⟨w.heap.size,who,none⟩ (.int .i64 (mxL mv [ww+gij]))).heap[bw]?=some (.cells (fnA 256 was) 89)∧Below w.heap.size w ((wr.alloc o).setCell ⟨w.heap.size,who,none⟩ (.int .i64 (mxL mv [ww+gij]))):=fun o=>by
                     have hb:=(Below.refl wr.heap.size wr).alloc (Nat.le_refl _) o
                     have e1:=heap_setCell_same (wr.alloc o) w.heap.size who _ _ (.int .i64 (mxL mv [ww+gij])) (below_heap hb HN.out.1 (lt_of_heap HN.out.1))
                     rw [fnA_set _ hw256,HSUM.out,← HE.out] at e1
                     refine ⟨by rw [HSUM.out];exact e1,(Below.heap_setCell _ ⟨w.heap.size,who,none⟩ _ bw (by show bw≠w.heap.size;omega)).trans (below_heap hb HN.out.2.1 (lt_of_heap HN.out.2.1)),(HN.out.2.2.trans (hb.mono HN.out.2.2.size)).setCell (p:=⟨w.heap.size,who,none⟩) (Nat.le_refl _) _⟩
                   have HFI:=Lib.hid HFIN
                   clear HFIN
                   go_wp2_with fail
                   go_region_law (first
                     | (go_simp;go_at_call 94;refine (most_any2 mv _ 1 1 [ww+gij] _ (by first | exact isI_new _ _ | exact (isI_new _ _).below (Below.refl _ _).drew)).mono ?_;rintro e w' ⟨rfl,rfl⟩)
                     | fail)
                   all_goals
                     clear hAl zAl hAd zAd hAe zAe
                     go_wp2_with fail
                     go_meet
                     exact ⟨rfl,Lib.hid ⟨(HFI.out _).1,(HFI.out _).2.1,(HFI.out _).2.2.drew⟩⟩
                 · have d0:decide (0≤gij)=false:=decide_eq_false hg0
                   have HE:Hid (innF (gL G) was j G.length who (i+1)=innF (gL G) was j G.length who i):=Lib.hid (innF_leave _ _ _ _ _ _ (fun e=>hg0 (by rw [← HGG.out];exact e.2)))
                   clear hbt hshi hg0
                   go_wp2_with fail
                   go_meet
                   exact ⟨rfl,by rw [HE.out];exact HN⟩
             case rest =>
               obtain ⟨rfl,HF⟩:=hcut
               clear k3 hc4 ch zh hshi
               go_wp2_with fail
               go_roundw
               case rel=>exact ⟨i+1,by omega,by go_num,HF⟩
               case measure=>simp [intOf];omega
           · have hii:i=G.length:=by omega
             subst hii
             go_wp2_with fail
             go_roundw
             case rel=>exact ⟨who+1,by omega,by go_num,by rw [← innF_full];exact HN⟩
             case measure=>simp [intOf];omega
       · have hww:who=P2:=by omega
         subst hww
         have HE:Hid (midF (gL G) was j G.length who=bF G.length (gL G) (j+1)):=Lib.hid (by rw [HP2.out,← HWAS.out];exact midF_full _ _ _)
         go_wp2_with fail
         go_roundw
         case rel=>exact ⟨j+1,by omega,by go_num,by rw [← HE.out];exact Lib.hid ⟨HM.out.1,HM.out.2.2⟩⟩
         case measure=>simp [intOf];omega
   · have hjj:j=K:=by omega
     subst hjj
     go_wp2_with fail
     refine (most_any2 0 (some ⟨w.heap.size,0,none⟩) 256 256 ((List.range 256).map (bF G.length (gL G) j)) wr (isI_fnA HQ.out.1 (by decide))).mono ?_;rintro e w' ⟨rfl,rfl⟩
     have HB:=Lib.hid HQ.out.2
     obtain ⟨v,hv⟩:∃ v,mxL 0 ((List.range 256).map (bF G.length (gL G) j))=v:=⟨_,rfl⟩
     have HV:=Lib.hid hv
     rw [hv]
     clear hv
     go_wp2_with fail
     go_ret
     exact ⟨by rw [HV.out];rfl,HB.out⟩
end
section
open JM
set_option linter.unusedVariables false
theorem bF_out {n:Nat} {g:Nat→Nat→Int} {s:Nat} (h:¬ s<2 ^ n):∀ j,bF n g j s=0
 | 0=>rfl
 | j+1=>by simp only [bF];rw [if_neg h];exact bF_out h j
theorem bF_isG {n K:Nat} {g:Nat→Nat→Int}:∀ j,j≤K→∀ s,s<2 ^ n→IsG n K g (bit s) (fun x=>x<j) (bF n g j s)
 | 0,_,s,hs=>IsG.none (.inr fun k _ h=>Nat.not_lt_zero _ h)
 | j+1,hj,s,hs=>by
   have h:=IsG.mask (K:=K) (g:=g) (was:=bF n g j) (k:=j) (by omega) (fun s hs=>bF_isG j (by omega) s hs) s hs
   simp only [bF];rw [if_pos hs];exact h
theorem bit_lt {n s i:Nat} (hs:s<2 ^ n) (h:bit s i):i<n:=by
 apply Classical.byContradiction
 intro hn
 have:s.testBit i=false:=Nat.testBit_lt_two_pow (Nat.lt_of_lt_of_le hs (Nat.pow_le_pow_right (by decide) (by omega)))
 unfold bit at h
 rw [this] at h;cases h
theorem best_mx {n K:Nat} {g:Nat→Nat→Int} (hn:n≤8):IsBest n K g (mxL 0 ((List.range 256).map (bF n g K))):=by
 have hp:2 ^ n≤256:=Nat.le_trans (Nat.pow_le_pow_right (by decide) hn) (by decide)
 have h0:0<2 ^ n:=Nat.pow_pos (by decide)
 have hf:=bF_isG (n:=n) (K:=K) (g:=g) K (Nat.le_refl K) (2 ^ n - 1) (by omega)
 have hb:=hf.best (fun i hi=>bit_full hi) (fun k hk=>hk)
 have e:mxL 0 ((List.range 256).map (bF n g K))=bF n g K (2 ^ n - 1):=by
   obtain ⟨h1,h2⟩:=mxL_ge 0 ((List.range 256).map (bF n g K))
   have h3:=h2 (bF n g K (2 ^ n - 1)) (List.mem_map.2 ⟨_,List.mem_range.2 (by omega),rfl⟩)
   have h4:=hf.nonneg
   rcases mxL_at 0 ((List.range 256).map (bF n g K)) with h | h
   · omega
   · obtain ⟨s,hs,hse⟩:=List.mem_map.1 h
     by_cases hsn:s<2 ^ n
     · have h5:=(bF_isG (n:=n) (K:=K) (g:=g) K (Nat.le_refl K) s hsn).mono hf (fun i hi=>bit_full (bit_lt hsn hi)) (fun k hk=>hk)
       omega
     · rw [bF_out hsn] at hse;omega
 rw [e];exact hb
noncomputable def bestV (n K:Nat) (g:Nat→Nat→Int):Int:=Classical.choose (best_ex n K g)
theorem bestV_is (n K:Nat) (g:Nat→Nat→Int):IsBest n K g (bestV n K g):=Classical.choose_spec (best_ex n K g)
theorem bestV_of {n K:Nat} {g:Nat→Nat→Int} {w:Int} (h:IsBest n K g w):w=bestV n K g:=h.uniq (bestV_is n K g)
end
section
open Go.RowKit Go.Shelf
set_option linter.unusedVariables false
set_option linter.unusedSimpArgs false
attribute [local go_sem] Oper.semAt_some
set_option maxHeartbeats 1000000 in
theorem wBest_any (a:Option Addr) (n c:Nat) (G:List (List Int)) (K:Nat) (w:World) (h:IsII w a n c G) (hg:GnOk G K) :
   Calls Tryz.prog 55 #[.slice a n c,.int .i64 (K:Int)] w fun e w' => e=.returned (.tuple #[.int .i64 (bestV G.length K (gL G)),.int .i64 0])∧Below w.heap.size w w':=by
 have HI:=Lib.hid h
 have HG:=Lib.hid hg
 have h8:=hg.k8
 clear h hg
 go_enter Tryz.func55,Tryz.ntmps55
 go_wp2_with fail
 refine (wcheck_any a n c G K w HI.out HG.out).mono ?_;rintro e w1 ⟨rfl,hb1⟩
 have HB1:=Lib.hid hb1
 clear hb1
 go_wp2_with fail
 refine (weach_any K w1 h8).mono ?_;rintro e w2 ⟨ia,ic,rfl,hb2,hi2⟩
 have HB2:=Lib.hid (HB1.out.trans (hb2.mono HB1.out.size))
 have HI2:=Lib.hid hi2
 clear hb2 hi2
 go_wp2_with fail
 refine (wbest_any a ia n c ic G K w2 (HI.out.below HB2.out) HG.out HI2.out).mono ?_;rintro e w3 ⟨rfl,hb3⟩
 have HB3:=Lib.hid (HB2.out.trans (hb3.mono HB2.out.size))
 have HV:Hid (mxL 0 ((List.range 256).map (bF G.length (gL G) K))=bestV G.length K (gL G)):=Lib.hid (bestV_of (best_mx HG.out.n8))
 clear hb3
 generalize mxL 0 ((List.range 256).map (bF G.length (gL G) K))=v at HV ⊢
 go_wp2_with fail
 go_ret2
 exact ⟨by rw [← HV.out];rfl,HB3.out⟩
end
open Go.RowKit
set_option linter.unusedVariables false
set_option linter.unusedSimpArgs false
namespace JM
def rB (g:Nat→Nat→Int) (K:Nat):Nat→Nat→Int
 | 0,_=>0
 | j+1,s=>mw (fun q i=>g i q) (rB g K j) s j K
theorem IsG.maskB {n K:Nat} {g:Nat→Nat→Int} {was:Nat→Int} {j:Nat} (hj:j<n) (h:∀ s,s<2 ^ K→IsG n K g (fun x=>x<j) (bit s) (was s)) (s:Nat) (hs:s<2 ^ K):IsG n K g (fun x=>x<j+1) (bit s) (mw (fun q i=>g i q) was s j K):=by
 obtain ⟨h1,h2,h3⟩:=mw_spec (fun q i=>g i q) was s j K
 have hx:∀ i,i<K→bit s i→s ^^^ 2 ^ i<2 ^ K:=fun i hi hb=>Nat.xor_lt_two_pow hs (Nat.pow_lt_pow_right (by decide) hi)
 refine (IsG.bidder (S:=fun x=>x<j) (A:=bit s) hj (Nat.lt_irrefl _) (h s hs) (fun q=>was (s ^^^ 2 ^ q)) (fun q hq hb _=>(h _ (hx q hq hb)).congr (fun _ _=>Iff.rfl) (fun x _=>bit_xor hb)) h1 (fun q hq hb hg=>h2 q hq hb hg) h3).congr (fun x _=>⟨fun e=>by rcases e with e | e <;> omega,fun e=>by omega⟩) (fun _ _=>Iff.rfl)
theorem rB_isG {n K:Nat} (g:Nat→Nat→Int):∀ j,j≤n→∀ s,s<2 ^ K→IsG n K g (fun x=>x<j) (bit s) (rB g K j s)
 | 0,_,s,hs=>IsG.none (.inl fun i _ e=>by omega)
 | j+1,hj,s,hs=>IsG.maskB (by omega) (rB_isG g j (by omega)) s hs
theorem rB_best {n K:Nat} (g:Nat→Nat→Int):IsBest n K g (rB g K n (2 ^ K - 1)) :=
 (rB_isG g n (Nat.le_refl _) _ (by have:=Nat.two_pow_pos K;omega)).best (fun i hi=>hi) (fun k hk=>bit_full hk)
theorem rB_bd {K:Nat} {g:Nat→Nat→Int} (hg:∀ i k,g i k≤1000000):∀ j s,0≤rB g K j s∧rB g K j s≤(j:Int)*1000000
 | 0,s=>by show (0:Int)≤0∧(0:Int)≤_;omega
 | j+1,s=>by
   have h:=mw_bd (g:=fun q i=>g i q) (was:=rB g K j) (B:=(j:Int)*1000000) (fun i k=>hg k i) (rB_bd hg j) s j K
   show 0≤mw _ _ _ _ _∧mw _ _ _ _ _≤_
   have e:(((j+1:Nat):Int))*1000000=(j:Int)*1000000+1000000:=by omega
   rw [e];exact h
end JM
def midR (g:Nat→Nat→Int) (K j s x:Nat):Int:=if x<s then JM.rB g K (j+1) x else JM.rB g K j x
def innR (g:Nat→Nat→Int) (K j s k x:Nat):Int:=if x=s then JM.mw (fun q i=>g i q) (JM.rB g K j) s j k else midR g K j s x
theorem midR_zero (g:Nat→Nat→Int) (K j:Nat):midR g K j 0=JM.rB g K j:=by funext x;unfold midR;rw [if_neg (by omega)]
theorem innR_zero (g:Nat→Nat→Int) (K j s:Nat):innR g K j s 0=midR g K j s:=by
 funext x
 unfold innR midR
 by_cases e:x=s
 · subst e;rw [if_pos rfl,if_neg (by omega)];rfl
 · rw [if_neg e]
theorem innR_full (g:Nat→Nat→Int) (K j s:Nat):innR g K j s K=midR g K j (s+1):=by
 funext x
 unfold innR midR
 by_cases e:x=s
 · subst e;rw [if_pos rfl,if_pos (by omega)];rfl
 · rw [if_neg e]
   by_cases h:x<s
   · rw [if_pos h,if_pos (by omega)]
   · rw [if_neg h,if_neg (by omega)]
theorem innR_at (g:Nat→Nat→Int) (K j s k:Nat):innR g K j s k s=JM.mw (fun q i=>g i q) (JM.rB g K j) s j k:=by unfold innR;rw [if_pos rfl]
theorem innR_take (g:Nat→Nat→Int) (K j s k:Nat) (h:s.testBit k=true∧0≤g j k):innR g K j s (k+1)=updF (innR g K j s k) s (max (JM.mw (fun q i=>g i q) (JM.rB g K j) s j k) (JM.rB g K j (s ^^^ 2 ^ k)+g j k)):=by
 funext x
 unfold updF
 by_cases e:x=s
 · subst e;rw [if_pos rfl];unfold innR;rw [if_pos rfl];simp only [JM.mw];rw [if_pos h]
 · rw [if_neg e];unfold innR;rw [if_neg e,if_neg e]
theorem innR_leave (g:Nat→Nat→Int) (K j s k:Nat) (h:¬ (s.testBit k=true∧0≤g j k)):innR g K j s (k+1)=innR g K j s k:=by
 funext x
 unfold innR
 by_cases e:x=s
 · subst e;rw [if_pos rfl,if_pos rfl];simp only [JM.mw];rw [if_neg h]
 · rw [if_neg e,if_neg e]
def HdF (w:World) (g N:Nat) (f:Nat→Int):Prop:=∃ C,w.heap[g]?=some (.cells C 3 (0,0))∧N≤C.size∧∀ i,i<N→C[i]?=some (.int .i64 (f i))
theorem HdF.congr {w:World} {g N:Nat} {f f':Nat→Int} (h:HdF w g N f) (e:∀ i,i<N→f i=f' i):HdF w g N f':=by
 obtain ⟨C,h1,h2,h3⟩:=h
 exact ⟨C,h1,h2,fun i hi=>by rw [← e i hi];exact h3 i hi⟩
theorem HdF.of_owns {w:World} {B g c N:Nat} {l:List Int} (h:w.ownsRow B 3 1 (.slice (some ⟨g,0,none⟩) N c) N (icells l)) (hl:l.length=N):HdF w g N (fun i=>l.getD i 0):=by
 rcases h.2 with ⟨hv,_⟩ | ⟨g',cap,cur,hv,hb,hg,hnc,hcm,hcs,htk⟩
 · cases hv
 · cases hv
   refine ⟨cur,hg,by omega,fun i hi => ?_⟩
   rw [← Array.getElem?_toList,← List.getElem?_take_of_lt (show i<N*1 by omega),htk,icells_get _ _ (show i<l.length by omega)]
   show _=some (Value.int .i64 (l.getD i 0))
   rw [getD_get (show i<l.length by omega)]
theorem HdF.cell {w:World} {g N:Nat} {f:Nat→Int} (h:HdF w g N f) {i:Nat} (hi:i<N):w.cell? ⟨g,i,none⟩=some (.int .i64 (f i)):=by
 obtain ⟨C,h1,h2,h3⟩:=h
 rw [cell_of_block h1];exact h3 i hi
theorem HdF.free {w:World} {g N:Nat} {f:Nat→Int} (h:HdF w g N f) (i:Nat):w.frozen? ⟨g,i,none⟩=false:=by
 obtain ⟨C,h1,_⟩:=h
 exact blk_free h1
theorem HdF.set {w:World} {g N:Nat} {f:Nat→Int} (h:HdF w g N f) {k:Nat} (hk:k<N) (v:Int):HdF (w.setCell ⟨g,k,none⟩ (.int .i64 v)) g N (updF f k v):=by
 obtain ⟨C,h1,h2,h3⟩:=h
 refine ⟨_,heap_setCell_same w g k _ _ _ h1,by simpa using h2,fun i hi => ?_⟩
 unfold updF
 by_cases e:i=k
 · subst e
   rw [if_pos rfl]
   simp [show i<C.size by omega]
 · rw [if_neg e,Array.getElem?_setIfInBounds,if_neg (fun h=>e h.symm)];exact h3 i hi
theorem HdF.isI {w:World} {g N c:Nat} {f:Nat→Int} (h:HdF w g N f) (hc:N≤c) (hm:c≤maxLen):IsI w (some ⟨g,0,none⟩) N c ((List.range N).map f):=by
 obtain ⟨C,h1,h2,h3⟩:=h
 refine ⟨by simp,by simpa using hc,hm,.inr ⟨g,0,rfl,lt_of_heap h1,fun i hi => ?_⟩⟩
 have hi':i<N:=by simpa using hi
 rw [cell_of_block h1,Nat.zero_add,h3 i hi'];simp
section
open Go.RowKit Go.Shelf
attribute [local go_sem] Oper.semAt_some
theorem wthL_take {g:List (List Int)} {sm l:List Int} {j:Nat} (h:j<sm.length):wthL g (sm.take (j+1)) l=wthL g (sm.take j) l+if wthB g l sm[j]=true then 1 else 0:=by
 unfold wthL
 rw [List.take_succ_eq_append_getElem h,List.filter_append,List.length_append,List.filter_cons]
 split <;> simp
def FewT (w:World) (g:List (List Int)) (K:Nat) (sm:List Int) (e:Ending) (W:World):Prop:=∃ x l c b,e=.returned (.tuple #[.slice x l.length c,.bool b,.int .i64 0])∧Below w.heap.size w W∧IsI W x l.length c l∧FewP g K sm l b∧∀ k off,x=some ⟨k,off,none⟩→w.heap.size≤k
set_option maxRecDepth 100000 in
set_option maxHeartbeats 16000000 in
theorem r09few_any (a sa:Option Addr) (n c sn sc:Nat) (g:List (List Int)) (K:Nat) (sm:List Int) (w:World) (h:IsIL w a n c g) (hg:GOk g K) (hs:IsI w sa sn sc sm) (hr:RisL sm g.length) :
   Calls Tryz.prog 105 #[.slice a n c,.int .i64 (K:Int),.slice sa sn sc] w (FewT w g K sm):=by
 obtain rfl:=h.1
 obtain rfl:=hs.1
 have hk8:=hg.hi
 have hn8:=hg.hn
 have hsl:=hr.len
 have HI:=Lib.hid h
 have HG:=Lib.hid hg
 have HS:=Lib.hid hs
 have HR:=Lib.hid hr
 obtain ⟨P2,hP2⟩:∃ P2:Nat,P2=2 ^ K:=⟨_,rfl⟩
 have hpl:P2≤256:=by rw [hP2];exact Nat.le_trans (Nat.pow_le_pow_right (by decide) hk8) (by decide)
 have hsh:wrap64 ((2:Int) ^ K)=(P2:Int):=by rw [hP2];exact pow_i64 _ (by omega)
 have HP2:=Lib.hid hP2
 have hnn8:g.length≤8:=hn8
 clear h hg hs hr hP2
 go_enter Tryz.func105,Tryz.ntmps105
 go_wp2_with fail
 refine (r06check_any a g.length c g K w HI.out HG.out).mono ?_
 rintro e w1 ⟨rfl,hb1⟩
 have HB1:=Lib.hid hb1
 clear hb1
 go_wp2_with fail
 refine (rrises_any sa sm.length sc sm g.length w1 (HS.out.below HB1.out) HR.out hn8).mono ?_
 rintro e w2 ⟨rfl,hb2⟩
 have HB2:=Lib.hid (HB1.out.trans (hb2.mono HB1.out.size))
 clear hb2
 go_wp2_with fail
 go_loopw [9,10,11,12,13,14,15,16,17,18] (fun be fo ni s12 s13 s14 s15 s16 s17 s18 wr => ∃ (nn:Nat) (xa:Option Addr) (xc:Nat) (best:List Int) (f:Bool),nn≤P2∧be=.slice xa best.length xc∧fo=.bool f∧ni=.int .i64 (nn:Int)∧Hid (IsI wr xa best.length xc best∧∀ k off,xa=some ⟨k,off,none⟩→w.heap.size≤k)∧Hid (JM.FwJ g K sm nn best f)∧Hid (Below w.heap.size w wr)) (fun _ _ ni _ _ _ _ _ _ _ _=>P2 - (intOf ni).toNat)
 case atStart=>exact ⟨0,none,0,[],false,Nat.zero_le _,rfl,rfl,rfl,Lib.hid ⟨IsI.nil _,fun k off e=>by cases e⟩,Lib.hid (JM.FwJ.start _ _ _),HB2⟩
 case round =>
   obtain ⟨nn,xa,xc,best,f,hnn,rfl,rfl,rfl,HX,HF,HB⟩:=hrel
   obtain ⟨V,rfl⟩:∃ V,V=wr:=⟨_,rfl⟩
   by_cases hlt:nn<P2
   · have hn256:nn<256:=by omega
     go_wp2_with fail
     try rw [hsh]
     clear hsh
     go_loopw [12,13] (fun l k wr => ∃ (q:Nat) (la:Option Addr) (lc:Nat),q≤K∧l=.slice la (JM.bitL q nn).length lc∧k=.int .i64 (q:Int)∧Hid (wr.ownsRow V.heap.size 3 1 (.slice la (JM.bitL q nn).length lc) (JM.bitL q nn).length (icells (JM.bitL q nn))∧Below V.heap.size V wr)) (fun _ k _=>K - (intOf k).toNat)
     case atStart=>exact ⟨0,none,0,Nat.zero_le _,rfl,rfl,Lib.hid ⟨World.ownsRow_nil _ _ _ _,Below.refl _ _⟩⟩
     case round =>
       obtain ⟨q,la,lc,hq,rfl,rfl,HQ⟩:=hrel
       by_cases hqk:q<K
       · have hll:=JM.bitL_len q nn
         cases hbt:nn.testBit q with
         | false =>
           have hb0:bits .and .i64 ((nn:Int) / 2 ^ q) 1=0:=by rw [bit_i64 _ _ (by omega),hbt];rfl
           have HU:=Lib.hid (JM.bitL_no hbt)
           clear hbt
           go_wp2_with fail
           go_roundw
           case rel=>exact ⟨q+1,la,lc,by omega,by rw [HU.out],by go_num,by rw [HU.out];exact HQ⟩
           case measure=>simp [intOf];omega
         | true =>
           have hb1:bits .and .i64 ((nn:Int) / 2 ^ q) 1=1:=by rw [bit_i64 _ _ (by omega),hbt];rfl
           have HU:=Lib.hid (JM.bitL_yes hbt)
           generalize JM.bitL q nn=L at HQ HU hll ⊢
           have ho:=HQ.out.1
           have hws:=HQ.out.2.size
           clear hbt
           go_wp2_with (at_builtin
                        refine wpList_append_any rowInt rfl (.tmp 48) (.tmp 50) rfl V.heap.size (.slice la L.length lc) L.length (icells L) rfl (ho.alloc _) (some ⟨wr.heap.size,0,none⟩) 1 1 [.int .i64 (q:Int)] rfl rfl (At.one wr _ _) (one_cell _ rfl) (by unfold maxLen;omega) (by omega) (by simp;omega) ?_
                        intro b7 c7 w7 ho7 hg7 _
                        have HB7:=Lib.hid ((HQ.out.2.alloc hws _).grown hg7 (by simp;omega) (fun k hk=>owns_base ho k hk))
                        have HO7:Hid (w7.ownsRow V.heap.size 3 1 (.slice b7 (L.length+1) c7) (L.length+1) (icells (L ++ [(q:Int)]))):=Lib.hid (by rw [icells_append];exact ho7)
                        clear ho7 hg7)
           go_roundw
           case rel=>exact ⟨q+1,b7,c7,by omega,by rw [HU.out,List.length_append];rfl,by go_num,Lib.hid ⟨by rw [HU.out,List.length_append];exact HO7.out,HB7.out⟩⟩
           case measure=>simp [intOf];omega
       · have hqq:q=K:=by omega
         rw [hqq] at HQ ⊢
         have hll:=JM.bitL_len K nn
         have HBN:Hid (JM.bitL K nn=JM.bitL K nn):=Lib.hid rfl
         obtain ⟨L,hL⟩:∃ L,L=JM.bitL K nn:=⟨_,rfl⟩
         have HL:=Lib.hid hL
         rw [← hL] at HQ hll ⊢
         obtain ⟨V2,rfl⟩:∃ V2,V2=wr:=⟨_,rfl⟩
         have HLI:Hid (IsI V2 la L.length lc L):=Lib.hid (isI_of_owns HQ.out.1 rfl)
         have HB2V:Hid (Below w.heap.size w V2):=Lib.hid (HB.out.trans (HQ.out.2.mono HB.out.size))
         have HXV:Hid (IsI V2 xa best.length xc best):=Lib.hid (HX.out.1.below HQ.out.2)
         have HXL:Hid (∀ k off,xa=some ⟨k,off,none⟩→w.heap.size≤k):=Lib.hid HX.out.2
         have HLL:Hid (∀ k off,la=some ⟨k,off,none⟩→w.heap.size≤k):=Lib.hid (fun k off e=>by subst e;exact Nat.le_trans HB.out.size (owns_base HQ.out.1 k rfl))
         have HSV:Hid (IsI V2 sa sm.length sc sm):=Lib.hid (HS.out.below HB2V.out)
         have HGV:Hid (IsIL V2 a g.length c g):=Lib.hid (HI.out.below HB2V.out)
         clear hqq hq hqk hL HBN HX HQ HB
         obtain ⟨M,hM⟩:∃ M,M=sm.length:=⟨_,rfl⟩
         have HM:=Lib.hid hM
         clear hM
         go_wp2_with fail
         go_loop [14,15,16,17,18] (fun ma i s16 s17 s18 => ∃ j:Nat,j≤sm.length∧ma=.int .i64 ((wthL g (sm.take j) L:Nat):Int)∧i=.int .i64 (j:Int)) (fun _ i _ _ _=>M - (intOf i).toNat)
         case atStart=>exact ⟨0,Nat.zero_le _,rfl,rfl⟩
         case round =>
           obtain ⟨j,hj,rfl,rfl⟩:=hrel
           have hwl:=Nat.le_trans (wthL_le g (sm.take j) L) (show (sm.take j).length≤j by simp;omega)
           by_cases hlj:j<sm.length
           · obtain ⟨b3,o3,rfl,hb3,c3⟩:=HSV.out.at j hlj
             obtain ⟨hz0,hz1⟩:=HR.out.at j hlj
             obtain ⟨i,hi⟩:=Int.eq_ofNat_of_zero_le hz0
             have hin:i<g.length:=by omega
             have HW:Hid (wthL g (sm.take (j+1)) L=wthL g (sm.take j) L+if wthB g L sm[j]=true then 1 else 0):=Lib.hid (wthL_take hlj)
             rw [hi] at c3 HW
             obtain ⟨b4,o4,x4,z4,rfl,hb4,c4,hI4⟩:=HGV.out.at hin
             have HWB:Hid (wthB g L (i:Int)=(g[i]).all fun k=>decide (k ∈ L)):=Lib.hid (by unfold wthB;rw [Int.toNat_natCast,getD_get hin])
             have hrl:g[i].length≤8:=by have:=(HG.out.hl _ (List.getElem_mem hin)).len;omega
             have HI4:=Lib.hid hI4
             generalize g[i]=row at c4 HI4 HWB hrl
             generalize wthL g (sm.take j) L=mv at HW hwl ⊢
             clear hI4 hi hz0 hz1
             go_wp2_with fail
             go_loop [17,18] (fun al k => ∃ q:Nat,q≤row.length∧al=.bool ((row.take q).all fun k=>decide (k ∈ L))∧k=.int .i64 (q:Int)) (fun _ k=>row.length - (intOf k).toNat)
             case atStart=>exact ⟨0,Nat.zero_le _,by simp,rfl⟩
             case round =>
               obtain ⟨q,hq,rfl,rfl⟩:=hrel
               by_cases hlq:q<row.length
               · obtain ⟨b5,o5,rfl,hb5,c5⟩:=HI4.out.at q hlq
                 have HA:Hid (((row.take (q+1)).all fun k=>decide (k ∈ L))=(((row.take q).all fun k=>decide (k ∈ L)) && decide (row[q] ∈ L))):=Lib.hid (by
                   rw [List.take_succ_eq_append_getElem hlq,List.all_append];simp)
                 generalize row[q]=z at c5 HA
                 cases hal:((row.take q).all fun k=>decide (k ∈ L)) with
                 | false =>
                   have HA2:Hid (((row.take (q+1)).all fun k=>decide (k ∈ L))=false):=Lib.hid (by rw [HA.out,hal];rfl)
                   clear hal HA
                   go_wp2_with fail
                   go_round
                   case rel=>exact ⟨q+1,by omega,by rw [HA2.out],by go_num⟩
                   case measure=>simp [intOf];omega
                 | true =>
                   have HA2:Hid (((row.take (q+1)).all fun k=>decide (k ∈ L))=decide (z ∈ L)):=Lib.hid (by rw [HA.out,hal];simp)
                   clear hal HA
                   go_wp2_with fail
                   refine (r06has_any la L.length lc L z _ HLI.out).mono ?_
                   rintro e w5 ⟨rfl,rfl⟩
                   generalize decide (z ∈ L)=bv at HA2
                   go_wp2_with fail
                   go_round
                   case rel=>exact ⟨q+1,by omega,by rw [HA2.out],by go_num⟩
                   case measure=>simp [intOf];omega
               · have hqq:q=row.length:=by omega
                 rw [hqq,List.take_length,← HWB.out]
                 clear hqq hq hlq
                 cases hwb:wthB g L (i:Int) with
                 | true =>
                   have HW2:Hid (wthL g (sm.take (j+1)) L=mv+1):=Lib.hid (by rw [HW.out,hwb];rfl)
                   clear hwb
                   go_wp2_with fail
                   go_round
                   case rel=>exact ⟨j+1,by omega,by rw [HW2.out];go_num,by go_num⟩
                   case measure=>have:=HM.out;simp [intOf];omega
                 | false =>
                   have HW2:Hid (wthL g (sm.take (j+1)) L=mv):=Lib.hid (by rw [HW.out,hwb];rfl)
                   clear hwb
                   go_wp2_with fail
                   go_round
                   case rel=>exact ⟨j+1,by omega,by rw [HW2.out],by go_num⟩
                   case measure=>have:=HM.out;simp [intOf];omega
           · have hjj:j=sm.length:=by omega
             rw [hjj,List.take_length] at hwl ⊢
             clear hjj hj hlj
             have HFL:Hid (wthL g sm L≤L.length→JM.FwJ g K sm (nn+1) best f):=Lib.hid (fun h9=>HF.out.leave (by rw [← HL.out];exact h9))
             have HFT:Hid (L.length<wthL g sm L→(f=true→L.length≤best.length)→JM.FwJ g K sm (nn+1) L true):=Lib.hid (fun h8 h9=>by
               have:=HF.out.take (by rw [← HL.out];exact h8) (by rw [← HL.out];exact h9)
               rwa [← HL.out] at this)
             have HFK:Hid (f=true→best.length≤L.length→JM.FwJ g K sm (nn+1) best f):=Lib.hid (fun h8 h9=>by
               have h7:=HF.out
               rw [h8] at h7 ⊢
               exact h7.keep (by rw [← HL.out];exact h9))
             have hbb:best.length≤9223372036854775807:=HXV.out.len
             have HEND:Hid (∀ W',Below V2.heap.size V2 W'→(IsI W' xa best.length xc best∧∀ k off,xa=some ⟨k,off,none⟩→w.heap.size≤k)∧(IsI W' la L.length lc L∧∀ k off,la=some ⟨k,off,none⟩→w.heap.size≤k)∧Below w.heap.size w W'):=Lib.hid (fun W' hW=>⟨⟨HXV.out.below hW,HXL.out⟩,⟨HLI.out.below hW,HLL.out⟩,HB2V.out.trans (hW.mono HB2V.out.size)⟩)
             generalize wthL g sm L=mv at hwl HFL HFT ⊢
             by_cases h1:mv≤L.length
             · have d1:decide ((L.length:Int)<(mv:Int))=false:=decide_eq_false (by omega)
               have d1b:decide (L.length<mv)=false:=decide_eq_false (by omega)
               have HJ:=Lib.hid (HFL.out h1)
               obtain ⟨e1,_,e3⟩:=HEND.out V2 (Below.refl _ _)
               have E1:=Lib.hid e1
               have E3:=Lib.hid e3
               clear h1 e1 e3
               go_wp2_with fail
               go_roundw
               case rel=>exact ⟨nn+1,xa,xc,best,f,by omega,rfl,rfl,by go_num,E1,HJ,E3⟩
               case measure=>simp [intOf];omega
             · have d1:decide ((L.length:Int)<(mv:Int))=true:=decide_eq_true (by omega)
               have d1b:decide (L.length<mv)=true:=decide_eq_true (by omega)
               cases f with
               | false =>
                 have HJ:=Lib.hid (HFT.out (by omega) (fun e=>by cases e))
                 obtain ⟨_,e1,e3⟩:=HEND.out V2 (Below.refl _ _)
                 have E1:=Lib.hid e1
                 have E3:=Lib.hid e3
                 clear h1 e1 e3
                 go_wp2_with fail
                 go_roundw
                 case rel=>exact ⟨nn+1,la,lc,L,true,by omega,rfl,rfl,by go_num,E1,HJ,E3⟩
                 case measure=>simp [intOf];omega
               | true =>
                 by_cases h2:L.length<best.length
                 · have d2:decide ((L.length:Int)<(best.length:Int))=true:=decide_eq_true (by omega)
                   have d2b:decide (L.length<best.length)=true:=decide_eq_true h2
                   have HJ:=Lib.hid (HFT.out (by omega) (fun _=>by omega))
                   obtain ⟨_,e1,e3⟩:=HEND.out V2 (Below.refl _ _)
                   have E1:=Lib.hid e1
                   have E3:=Lib.hid e3
                   clear h1 h2 e1 e3
                   go_wp2_with fail
                   go_roundw
                   case rel=>exact ⟨nn+1,la,lc,L,true,by omega,rfl,rfl,by go_num,E1,HJ,E3⟩
                   case measure=>simp [intOf];omega
                 · have d2:decide ((L.length:Int)<(best.length:Int))=false:=decide_eq_false (by omega)
                   have d2b:decide (L.length<best.length)=false:=decide_eq_false h2
                   have HJK:=Lib.hid (HFK.out rfl (by omega))
                   by_cases h3:L.length=best.length
                   · have d3:((L.length:Int) == (best.length:Int))=true:=by rw [h3];simp
                     have d3b:(L.length == best.length)=true:=by rw [h3];simp
                     have HJT:=Lib.hid (HFT.out (by omega) (fun _=>by omega))
                     have H3:=Lib.hid h3
                     clear h1 h2 h3
                     go_wp2_with fail
                     refine (rless_any la xa L.length lc best.length xc L best _ HLI.out HXV.out H3.out (by omega)).mono ?_
                     rintro e w7 ⟨v,rfl,hb7⟩
                     obtain ⟨e0,e1,e3⟩:=HEND.out w7 hb7
                     have E0:=Lib.hid e0
                     have E1:=Lib.hid e1
                     have E3:=Lib.hid e3
                     clear e0 e1 e3 hb7
                     cases v with
                     | true =>
                       go_wp2_with fail
                       go_roundw
                       case rel=>exact ⟨nn+1,la,lc,L,true,by omega,rfl,rfl,by go_num,E1,HJT,E3⟩
                       case measure=>simp [intOf];omega
                     | false =>
                       go_wp2_with fail
                       go_roundw
                       case rel=>exact ⟨nn+1,xa,xc,best,true,by omega,rfl,rfl,by go_num,E0,HJK,E3⟩
                       case measure=>simp [intOf];omega
                   · have d3:((L.length:Int) == (best.length:Int))=false:=by rw [beq_eq_false_iff_ne];omega
                     have d3b:(L.length == best.length)=false:=by rw [beq_eq_false_iff_ne];exact h3
                     obtain ⟨e0,e1,e3⟩:=HEND.out V2 (Below.refl _ _)
                     have E0:=Lib.hid e0
                     have E3:=Lib.hid e3
                     clear h1 h2 h3 e0 e1 e3
                     go_wp2_with fail
                     go_roundw
                     case rel=>exact ⟨nn+1,xa,xc,best,true,by omega,rfl,rfl,by go_num,E0,HJK,E3⟩
                     case measure=>simp [intOf];omega
   · have hnp:nn=P2:=by omega
     have HE:Hid (FewP g K sm best f):=Lib.hid (by
       have h9:=HF.out
       rw [hnp,HP2.out] at h9
       exact h9.done)
     rw [hnp]
     clear hnp hnn hlt HF
     go_wp2_with fail
     go_ret3
     exact ⟨xa,best,xc,f,rfl,HB.out,HX.out.1,HE.out,HX.out.2⟩
end
namespace JM
def mskG (g:Nat→Nat→Int) (l:List Nat) (T:Nat) (i k:Nat):Int:=if i ∈ l∧T.testBit k=false then g i k else -1
def keepM (l:List Nat) (T:Nat) (m:Nat→Option Nat) (i:Nat):Option Nat:=match m i with | none=>none | some k=>if i ∈ l∧T.testBit k=false then some k else none
theorem keepM_some {l:List Nat} {T:Nat} {m:Nat→Option Nat} {i k:Nat} (h:keepM l T m i=some k):m i=some k∧i ∈ l∧T.testBit k=false:=by
 unfold keepM at h
 cases e:m i with
 | none=>rw [e] at h;cases h
 | some q =>
   rw [e] at h
   dsimp only at h
   split at h
   · rename_i hc;cases h;exact ⟨rfl,hc⟩
   · cases h
theorem gval_msk {g:Nat→Nat→Int} {l:List Nat} {T:Nat} {m:Nat→Option Nat} (n:Nat) (h:∀ i k,i<n→m i=some k→i ∈ l∧T.testBit k=false):sumN n (gval (mskG g l T) m)=sumN n (gval g m):=sumN_congr fun i hi=>by
 cases e:m i with
 | none=>rw [gval_none e,gval_none e]
 | some k=>rw [gval_some e,gval_some e];unfold mskG;rw [if_pos (h i k hi e)]
theorem best_mask {n K:Nat} {g:Nat→Nat→Int} {l:List Nat} {T:Nat} {w:Int} (h:IsBest n K (mskG g l T) w):IsG n K g (· ∈ l) (fun k => ¬ bit T k) w:=by
 have hb:∀ k,¬ bit T k↔T.testBit k=false:=fun k=>by unfold bit;simp
 refine ⟨fun m hm ho => ?_,?_⟩
 · rw [← gval_msk (l:=l) (T:=T) n (fun i k hi e=>⟨(ho i k hi e).1,(hb k).1 (ho i k hi e).2⟩)]
   exact h.le m hm
 · obtain ⟨m,hm,e⟩:=h.ex
   have hm':Mt n K (keepM l T m):=⟨fun i k hi e=>hm.lt i k hi (keepM_some e).1,fun i j k hi hj e1 e2=>hm.inj i j k hi hj (keepM_some e1).1 (keepM_some e2).1⟩
   have ho:∀ i k,i<n→keepM l T m i=some k→i ∈ l∧T.testBit k=false:=fun i k _ e=>(keepM_some e).2
   have h1:sumN n (gval (mskG g l T) m)≤sumN n (gval g (keepM l T m)):=sumN_le fun i hi=>by
     cases e:m i with
     | none =>
       have:keepM l T m i=none:=by unfold keepM;rw [e]
       rw [gval_none e,gval_none this];exact Int.le_refl _
     | some k =>
       rw [gval_some e]
       by_cases hc:i ∈ l∧T.testBit k=false
       · have:keepM l T m i=some k:=by unfold keepM;rw [e];exact if_pos hc
         rw [gval_some this];unfold mskG;rw [if_pos hc];exact Int.le_refl _
       · have:keepM l T m i=none:=by unfold keepM;rw [e];exact if_neg hc
         rw [gval_none this];unfold mskG;rw [if_neg hc];decide
   have h2:=h.le _ hm'
   rw [gval_msk n ho] at h2
   refine ⟨_,hm',fun i k hi e=>⟨(ho i k hi e).1,(hb k).2 (ho i k hi e).2⟩,?_⟩
   omega
theorem best_fb {n K:Nat} {g:Nat→Nat→Int} {l:List Nat} {T:Nat} (hl:l.Nodup) (hn:∀ i ∈ l,i<n):bestV n K (mskG g l T)=fb K g l T :=
 (best_mask (bestV_is n K (mskG g l T))).uniq (fb_isG g l hl hn T)
end JM
end Go.Proofs.YtmmmjohoihpbeaaGreat
