/- The statement StoresPlay: what an act does,a theorem of its own;conditions: those typed. (Written by split_play.py.) -/
import Derived.Test.YtgbikngicidbkaaGreatDoorQStPlayUStPlayV
import Derived.Test.YtgbikngicidbkaaGreatDoorQR20mStPlayTR20nR20oStPlayArgs
import Derived.Deep.CutBlock
import Derived.Deep.DeepCutAuto
namespace Go.Proofs.YtgbikngicidbkaaGreatDoor
open Go.RowKit
set_option linter.unusedVariables false
set_option linter.unusedSimpArgs false
set_option maxRecDepth 100000
theorem rec_oneP (a:Int) (b:Bool) (x:Option Addr) (n k:Nat):∀ v ∈ [Value.int .u32 a,Value.bool b,Value.slice x n k],v.oneCell'=true:=by
 intro v hv
 simp only [List.mem_cons,List.not_mem_nil,or_false] at hv
 rcases hv with rfl | rfl | rfl <;> rfl
def blkOf (n:Nat):Code→Option Code
 | .block m c=>if m=n then some (.block m c) else blkOf n c
 | .loop c=>blkOf n c
 | .scope c=>blkOf n c
 | .seq a b=>match blkOf n a with
   | some c=>some c
   | none=>blkOf n b
 | .cond _ a b=>match blkOf n a with
   | some c=>some c
   | none=>blkOf n b
 | _=>none
noncomputable def armsCode:Code:=((Tryz.f3.body.bind (blkOf 2)).getD .skip)
set_option maxHeartbeats 64000000 in
theorem play_arms (x:StA) (c:StC) (w w1:World) (bc bk hx bd bl rd rl rc j M f10:Nat) (D R:Dsk) (yy:AcV)
   (u0 u1 u2 u3 u5 u6 u8 u10 u11 u12 u13 u15 u17 u18 u19 u20 u21 u22 u23 u24 u25 u26 u27 u28 u29 u30 u31 u32 u33 u34 u35 u36 u37 u38 u39 u40 u41 u42 u43 u44 u45 u46 u47 u48 u49 u50 u51 u52 u53 u54 u55 u56 u57 u58 u59 u60 u61 u62 u63 u64
   u65 u66 u67 u68 u69 u70 u71 u72 u73 u74 u75 u76 u77 u78 u79 u80 u81 u82 u83 u84 u85 u86 u87 u88 u89 u90 u91 u92 u93 u94 u95 u96 u97 u98 u99 u101 u102 u103 u104 u105 u106 u107 u108 u109 u110 u111 u112 u113 u114 u115 u116 u117 u118 u119 u120 u121 u122 u123 u124 u125
   u126 u127 u128 u129 u130 u131 u132 u133 u134 u135 u136 u137 u138 u139 u140 u141 u142 u143 u144 u145 u146 u147 u148 u149 u150 u151 u152 u153 u154 u155 u156 u157 u158 u159 u160 u161 u162 u163 u164 u165 u166 u167 u168 u169 u170 u171 u172 u173 u174 u175 u176 u177 u178 u179 u180 u181 u182 u183 u184 u185
   u186 u187 u188 u189 u190 u191 u192 u193 u194 u195 u196 u197 u198 u199 u200 u201 u202 u203 u204 u205 u206 u207 u208 u209 u210 u211 u212 u213 u214 u215 u216 u217 u218 u219 u220 u221 u222 u223 u224 u225 u226 u227 u228 u229 u230 u231 u232 u233 u234 u235 u236 u237 u238 u239 u240 u241 u242 u243 u244 u245
   u246 u247 u248 u249 u250 u251 u252 u253 u254 u255 u256 u257 u258 u259 u260 u261 u262 u263 u264 u265 u266 u267 u268 u269 u270 u271 u272 u273 u274 u275 u276 u277 u278 u279 u280 u281 u282 u283 u284 u285 u286 u287 u288 u289 u290 u291 u292 u293 u294 u295 u296 u297 u298 u299 u300 u301 u302 u303 u304 u305
   u306 u307 u308 u309 u310 u311 u312 u313 u314 u315 u316 u317 u318 u319 u320 u321 u322 u323 u324 u325 u326 u327 u328 u329:Value)
   (HC:Hid (IsCf w (fun k=>k<w.heap.size) x c)) (hct:c.t<18446744073709551616) (hcs:c.s.length≤250) (hj1:j+1≤M) (hjj:j≤62) (hl1:yy.r.n≤250) (hl2:yy.on≤250) (hl3:yy.bn≤10039) (HOK:Hid (AcOk w yy)) (HO1:Hid (yy.on=yy.o.length)) (ho2:yy.o.length≤250) (HF1:Hid (D.fine (10*((j:Int)+1)))) (hf11:f10<10) (m1:(yy.k:Int) % 10=(f10:Int)) (m2:((yy.k:Int)).tmod 10=(f10:Int)) (m3:IntKind.u8.wrap (f10:Int)=(f10:Int)) (HS1:Hid (PlS w w1 bd bl rd rl rc bk (1004+30*j) bc x c u12 u13 D R)) (HX1:Hid (BxAc w1 hx yy))
   (J K:Act→World→Prop)
   (hJ:∀ (a':Act) (w':World),(∃ z6 z7 z9 z10 z12 z13 z17 z18 z19 z20 z21 z22 z23 z24 z88 z89 z90 z91 z92 z93 z94 z95 z96 z97 z98 z99 z101 z102 z103 z104 z105 z106 z107 z108 z109 z110 z111 z112 z113 z114 z115 z116 z117 z118 z119 z120 z121 z122 z123 z124 z125 z126 z127 z128 z129 z130 z131 z132 z133 z134
   z135 z136 z137 z138 z139 z140 z141 z142 z143 z144 z145 z146 z147 z148 z149 z150 z151 z152 z153 z154 z155 z156 z157 z158 z159 z160 z161 z162 z163 z164 z165 z166 z167 z168 z169 z170 z171 z172 z173 z174 z175 z176 z177 z178 z179 z180 z181 z182 z183 z184 z185 z186 z187 z188 z189 z190 z191 z192 z193 z194
   z195 z196 z197 z198 z199 z200 z201 z202 z203 z204 z205 z206 z207 z208 z209 z210 z211 z212 z213 z214 z215 z216 z217 z218 z219 z220 z221 z222 z223 z224 z225 z226 z227 z228 z229 z230 z231 z232 z233 z234 z235 z236 z237 z238 z239 z240 z241 z242 z243 z244 z245 z246 z247 z248 z249 z250 z251 z252 z253 z254
   z255 z256 z257 z258 z259 z260 z261 z262 z263 z264 z265 z266 z267 z268 z269 z270 z271 z272 z273 z274 z275 z276 z277 z278 z279 z280 z281 z282 z283 z284 z285 z286 z287 z288 z289 z290 z291 z292 z293 z294 z295 z296 z297 z298 z299 z300 z301 z302 z303 z304 z305 z306 z307 z308 z309 z310 z311 z312 z313 z314
   z315 z316 z317 z318 z319 z320 z321 z322 z323 z324 z325:Value,PlCut w bk (1004+30*j) bc hx (10*((j:Int)+2)) x c yy z7 z9 z12 z13 w'∧a'=⟨#[u0,u1,u2,u3,.pointer (some ⟨bc,0,none⟩),u5,z6,z7,u8,z9,z10,u11,z12,z13,.pointer (some ⟨bk,0,none⟩),u15,.pointer (some ⟨hx,0,none⟩),z17,z18,z19,z20,z21,z22,z23,z24,u25,u26,u27,u28,u29,u30,u31,u32,u33,u34,u35,u36,u37,u38,u39,u40,u41,u42,u43,u44,u45,u46,u47,u48,u49,u50,u51,u52,u53,u54,u55,u56,u57,u58,u59,
   u60,u61,u62,u63,u64,u65,u66,u67,u68,u69,u70,u71,u72,u73,u74,u75,u76,u77,u78,u79,u80,u81,u82,u83,u84,u85,u86,u87,z88,z89,z90,z91,z92,z93,z94,z95,z96,z97,z98,z99,.int .u8 (f10:Int),z101,z102,z103,z104,z105,z106,z107,z108,z109,z110,z111,z112,z113,z114,z115,z116,z117,z118,z119,
   z120,z121,z122,z123,z124,z125,z126,z127,z128,z129,z130,z131,z132,z133,z134,z135,z136,z137,z138,z139,z140,z141,z142,z143,z144,z145,z146,z147,z148,z149,z150,z151,z152,z153,z154,z155,z156,z157,z158,z159,z160,z161,z162,z163,z164,z165,z166,z167,z168,z169,z170,z171,z172,z173,z174,z175,z176,z177,z178,z179,
   z180,z181,z182,z183,z184,z185,z186,z187,z188,z189,z190,z191,z192,z193,z194,z195,z196,z197,z198,z199,z200,z201,z202,z203,z204,z205,z206,z207,z208,z209,z210,z211,z212,z213,z214,z215,z216,z217,z218,z219,z220,z221,z222,z223,z224,z225,z226,z227,z228,z229,z230,z231,z232,z233,z234,z235,z236,z237,z238,z239,
   z240,z241,z242,z243,z244,z245,z246,z247,z248,z249,z250,z251,z252,z253,z254,z255,z256,z257,z258,z259,z260,z261,z262,z263,z264,z265,z266,z267,z268,z269,z270,z271,z272,z273,z274,z275,z276,z277,z278,z279,z280,z281,z282,z283,z284,z285,z286,z287,z288,z289,z290,z291,z292,z293,z294,z295,z296,z297,z298,z299,
   z300,z301,z302,z303,z304,z305,z306,z307,z308,z309,z310,z311,z312,z313,z314,z315,z316,z317,z318,z319,z320,z321,z322,z323,z324,z325,u326,u327,u328,u329],[]⟩)→J a' w')
   (hM:∀ (a':Act) (w':World),Met J a' w'→K a' w') :
   Code.wp Tryz.prog armsCode (Exit.then K (bodyPost Tryz.prog Tryz.f3 (fun _ _=>False))) ⟨#[u0,u1,u2,u3,.pointer (some ⟨bc,0,none⟩),u5,u6,.pointer (some ⟨bd,0,none⟩),u8,.pointer (some ⟨rd,0,none⟩),u10,u11,u12,u13,.pointer (some ⟨bk,0,none⟩),u15,.pointer (some ⟨hx,0,none⟩),u17,u18,u19,u20,u21,u22,u23,u24,u25,u26,u27,u28,u29,u30,u31,u32,u33,u34,u35,u36,u37,u38,u39,u40,u41,u42,u43,u44,u45,u46,u47,u48,u49,u50,u51,u52,u53,u54,u55,u56,u57,u58,u59,
   u60,u61,u62,u63,u64,u65,u66,u67,u68,u69,u70,u71,u72,u73,u74,u75,u76,u77,u78,u79,u80,u81,u82,u83,u84,u85,u86,u87,u88,u89,u90,u91,u92,u93,u94,u95,u96,u97,u98,u99,.int .u8 (f10:Int),u101,u102,u103,u104,u105,u106,u107,u108,u109,u110,u111,u112,u113,u114,u115,u116,u117,u118,u119,
   u120,u121,u122,u123,u124,u125,u126,u127,u128,u129,u130,u131,u132,u133,u134,u135,u136,u137,u138,u139,u140,u141,u142,u143,u144,u145,u146,u147,u148,u149,u150,u151,u152,u153,u154,u155,u156,u157,u158,u159,u160,u161,u162,u163,u164,u165,u166,u167,u168,u169,u170,u171,u172,u173,u174,u175,u176,u177,u178,u179,
   u180,u181,u182,u183,u184,u185,u186,u187,u188,u189,u190,u191,u192,u193,u194,u195,u196,u197,u198,u199,u200,u201,u202,u203,u204,u205,u206,u207,u208,u209,u210,u211,u212,u213,u214,u215,u216,u217,u218,u219,u220,u221,u222,u223,u224,u225,u226,u227,u228,u229,u230,u231,u232,u233,u234,u235,u236,u237,u238,u239,
   u240,u241,u242,u243,u244,u245,u246,u247,u248,u249,u250,u251,u252,u253,u254,u255,u256,u257,u258,u259,u260,u261,u262,u263,u264,u265,u266,u267,u268,u269,u270,u271,u272,u273,u274,u275,u276,u277,u278,u279,u280,u281,u282,u283,u284,u285,u286,u287,u288,u289,u290,u291,u292,u293,u294,u295,u296,u297,u298,u299,
   u300,u301,u302,u303,u304,u305,u306,u307,u308,u309,u310,u311,u312,u313,u314,u315,u316,u317,u318,u319,u320,u321,u322,u323,u324,u325,u326,u327,u328,u329],[]⟩ w1:=by
 conv=>arg 2;whnf
 have hj:j≤M:=by omega
 obtain ⟨v0,v1,v2,v3,v4,v5,v6,v7,v8,v9⟩:=HX1.out.cells
 have hcases:(f10=4∨f10=5)∨f10=6∨f10=7∨f10=8∨f10=9∨f10<4:=by omega
 rcases hcases with hk | rfl | rfl | rfl | rfl | hk
 · go_upto_if 127 with fail
   go_cut [127] (fun v wx=>v=.bool true∧w1=wx)
   case first =>
     rcases hk with rfl | rfl
     · go_wp2_with fail
       go_meet
       exact ⟨rfl,rfl⟩
     · go_wp2_with fail
       go_meet
       exact ⟨rfl,rfl⟩
   case rest =>
     obtain ⟨rfl,rfl⟩:=hcut
     rcases HS1.out.p with ⟨rfl,rfl⟩ | ⟨bs,ts,xs,ys,cs,rfl,rfl,hst⟩
     · as_aux_lemma =>
         go_wp2_with fail
         refine (twinI_ex yy.oa yy.on yy.oc yy.o w1 (Nat.le_trans ho2 (by decide)) (HOK.out.o.1.below HS1.out.q.below)).mono ?_
         rintro e w2 ⟨g,rfl,hb2,htg,hgg⟩;try dsimp only
         rw [← HO1.out]
         have hbd:Below w1.heap.size w1 w2.drew:=hb2.trans ((Below.refl w2.heap.size w2).drew.mono hb2.size)
         have HSd:=Lib.hid (HS1.out.after hbd)
         have HXd:=Lib.hid (HX1.out.below hbd)
         have HTd:Hid (TwI w2.drew g yy.o):=Lib.hid htg
         clear hb2 htg hgg v0 v1 v2 v3 v4 v5 v6 v7 v8 v9
         clear HS1 HX1 hbd
         go_wp2_with fail
         refine wp_region_held_drew (S:=(fun w':World=>BxAc w' hx yy)) (by kernel_rfl) (HXd.out) (fun hS0 => ?_)
         refine tk 0 (.pointer none) rfl (fun w' hSw => ?_) hS0 ?_
         · go_simp
         refine tk 1 (.bool false) rfl (fun w' hSw => ?_) hS0 ?_
         · go_simp
         refine tk 2 (.bool false) rfl (fun w' hSw => ?_) hS0 ?_
         · go_simp
         try simp only [List.getElem_toArray,List.getElem_cons_zero,List.getElem_cons_succ,Act.put,List.setIfInBounds_toArray,List.set_cons_zero,List.set_cons_succ]
         refine tn 3 rfl hS0 ?_
         refine tn 4 rfl hS0 ?_
         refine tn 5 rfl hS0 ?_
         try simp only [List.getElem_toArray,List.getElem_cons_zero,List.getElem_cons_succ,Act.put,List.setIfInBounds_toArray,List.set_cons_zero,List.set_cons_succ]
         refine tn 6 rfl hS0 ?_
         refine tn 7 rfl hS0 ?_
         refine tn 8 rfl hS0 ?_
         try simp only [List.getElem_toArray,List.getElem_cons_zero,List.getElem_cons_succ,Act.put,List.setIfInBounds_toArray,List.set_cons_zero,List.set_cons_succ]
         refine tn 9 rfl hS0 ?_
         refine tn 10 rfl hS0 ?_
         refine tn 11 rfl hS0 ?_
         try simp only [List.getElem_toArray,List.getElem_cons_zero,List.getElem_cons_succ,Act.put,List.setIfInBounds_toArray,List.set_cons_zero,List.set_cons_succ]
         refine tn 12 rfl hS0 ?_
         refine tn 13 rfl hS0 ?_
         refine tn 14 rfl hS0 ?_
         try simp only [List.getElem_toArray,List.getElem_cons_zero,List.getElem_cons_succ,Act.put,List.setIfInBounds_toArray,List.set_cons_zero,List.set_cons_succ]
         refine tk 15 (.bool false) rfl (fun w' hSw => ?_) hS0 ?_
         · go_simp
         refine tk 16 (.bool false) rfl (fun w' hSw => ?_) hS0 ?_
         · go_simp
         refine tk 17 (.slice (some ⟨g,0,none⟩) yy.on (yy.on+1)) rfl (fun w' hSw => ?_) hS0 ?_
         · go_simp
         try simp only [List.getElem_toArray,List.getElem_cons_zero,List.getElem_cons_succ,Act.put,List.setIfInBounds_toArray,List.set_cons_zero,List.set_cons_succ]
         refine tk 18 (.pointer (some ⟨hx,6,none⟩)) rfl (fun w' hSw => ?_) hS0 ?_
         · go_simp
         refine tk 19 (.slice yy.oa yy.on yy.oc) rfl (fun w' hSw => ?_) hS0 ?_
         · obtain ⟨g0,g1,g2,g3,g4,g5,g6,g7,g8,g9⟩:=BxAc.cells hSw
           go_simp
           try rfl
         try simp only [List.getElem_toArray,List.getElem_cons_zero,List.getElem_cons_succ,Act.put,List.setIfInBounds_toArray,List.set_cons_zero,List.set_cons_succ]
         refine wpAnyH_ready (rs:=[20]) (by kernel_rfl) (by simp) ?_
         refine AllReadyH.cons rfl (fun K hK => ?_) AllReadyH.nil
         go_simp
         refine (leftI_any g yy.oa yy.on yy.oc yy.o w2.drew (by omega) (HOK.out.o.1.below HSd.out.q.below) HTd.out.twin).mono ?_;rintro e w5 ⟨rfl,hb5⟩;try dsimp only
         have HS5:=Lib.hid (HSd.out.after hb5)
         have HX5:=Lib.hid (HXd.out.below hb5)
         refine hK.out _ _ (HX5.out) (fun hS1 => ?_)
         clear hK K
         try simp only [List.getElem_toArray,List.getElem_cons_zero,List.getElem_cons_succ,Act.put,List.setIfInBounds_toArray,List.set_cons_zero,List.set_cons_succ]
         refine tk 21 (.bool false) rfl (fun w' hSw => ?_) hS1 ?_
         · go_simp
         refine tk 22 (.bool false) rfl (fun w' hSw => ?_) hS1 ?_
         · go_simp
         refine wpAnyH_done (by kernel_rfl) ?_ _
         try simp only [List.getElem_toArray,List.getElem_cons_zero,List.getElem_cons_succ,Act.put,List.setIfInBounds_toArray,List.set_cons_zero,List.set_cons_succ]
         clear HSd HXd HTd hb5
         go_wp2_with fail
         go_meet
         exact ⟨bd,bl,rd,rl,rc,D,R,rfl,rfl,HS5.out,HF1.out.mono (by omega),HX5.out⟩
     · as_aux_lemma =>
         have hmay:=(mayB_iff cs).1 hst.may
         have hs8:=hmay.s.2
         have HST:=Lib.hid hst
         clear hst hmay
         go_wp2_with fail
         refine (twinI_ex yy.oa yy.on yy.oc yy.o w1 (Nat.le_trans ho2 (by decide)) (HOK.out.o.1.below HS1.out.q.below)).mono ?_
         rintro e w2 ⟨g,rfl,hb2,htg,hgg⟩;try dsimp only
         rw [← HO1.out]
         have hbd:Below w1.heap.size w1 w2.drew:=hb2.trans ((Below.refl w2.heap.size w2).drew.mono hb2.size)
         have HSd:=Lib.hid (HS1.out.after hbd)
         have HXd:=Lib.hid (HX1.out.below hbd)
         have HTd:Hid (TwI w2.drew g yy.o):=Lib.hid htg
         clear hb2 htg hgg v0 v1 v2 v3 v4 v5 v6 v7 v8 v9
         have HSTd:=Lib.hid (HST.out.after hbd)
         clear HS1 HX1 HST hbd
         have HSAME:=Lib.hid HSd.out.q.same
         have hti:IsI w2.drew (some ⟨g,0,none⟩) yy.on (yy.on+1) yy.o:=⟨HOK.out.o.1.1,by have:=HOK.out.o.1.1;omega,by unfold maxLen;omega,.inr ⟨g,0,rfl,lt_of_heap HTd.out,fun i hi=>by rw [Nat.zero_add];exact HTd.out.twin.2.1 i hi⟩⟩
         have HT1:=Lib.hid (turn_pub bs bd bl xs cs D yy.p (some ⟨g,0,none⟩) yy.on (yy.on+1) yy.o _ w2.drew HSTd.out.ps hti (by have:=HOK.out.o.2;omega) HOK.out.p HF1.out (by omega) (get_lt32 HSTd.out.ps.disk _))
         have HTT:=Lib.hid (HSAME.out.turn cs.s.length yy.p yy.o)
         have HFT:=Lib.hid (turnD_fine HF1.out cs.s.length yy.p yy.o)
         obtain ⟨E,hE⟩:∃ E,E=(turnD cs.s.length D yy.p yy.o).1:=⟨_,rfl⟩
         rw [← hE] at HT1 HTT
         clear hE hti
         have hee:(E == E)=true:=by simp
         have hne:(E != E)=false:=by simp
         go_wp2_with fail
         refine wp_region_held_drew (S:=(fun w':World=>BxAc w' hx yy)) (by kernel_rfl) (HXd.out) (fun hS0 => ?_)
         refine tk 0 (.pointer (some ⟨ts,0,none⟩)) rfl (fun w' hSw => ?_) hS0 ?_
         · go_simp
         refine tk 1 (.bool true) rfl (fun w' hSw => ?_) hS0 ?_
         · go_simp
         refine tk 2 (.bool true) rfl (fun w' hSw => ?_) hS0 ?_
         · go_simp
         try simp only [List.getElem_toArray,List.getElem_cons_zero,List.getElem_cons_succ,Act.put,List.setIfInBounds_toArray,List.set_cons_zero,List.set_cons_succ]
         refine tk 3 (.pointer (some ⟨bs,0,none⟩)) rfl (fun w' hSw => ?_) hS0 ?_
         · go_simp
         refine tk 4 (.pointer (some ⟨hx,5,none⟩)) rfl (fun w' hSw => ?_) hS0 ?_
         · go_simp
         refine tk 5 (.int .u8 yy.p) rfl (fun w' hSw => ?_) hS0 ?_
         · obtain ⟨g0,g1,g2,g3,g4,g5,g6,g7,g8,g9⟩:=BxAc.cells hSw
           go_simp
           try rfl
         try simp only [List.getElem_toArray,List.getElem_cons_zero,List.getElem_cons_succ,Act.put,List.setIfInBounds_toArray,List.set_cons_zero,List.set_cons_succ]
         refine tk 6 (.slice (some ⟨g,0,none⟩) yy.on (yy.on+1)) rfl (fun w' hSw => ?_) hS0 ?_
         · go_simp
         refine tk 8 (.pointer (some ⟨ts,0,none⟩)) rfl (fun w' hSw => ?_) hS0 ?_
         · go_simp
         refine tk 9 (.pointer (some ⟨hx,5,none⟩)) rfl (fun w' hSw => ?_) hS0 ?_
         · go_simp
         try simp only [List.getElem_toArray,List.getElem_cons_zero,List.getElem_cons_succ,Act.put,List.setIfInBounds_toArray,List.set_cons_zero,List.set_cons_succ]
         refine tk 10 (.int .u8 yy.p) rfl (fun w' hSw => ?_) hS0 ?_
         · obtain ⟨g0,g1,g2,g3,g4,g5,g6,g7,g8,g9⟩:=BxAc.cells hSw
           go_simp
           try rfl
         refine tk 11 (.pointer (some ⟨hx,6,none⟩)) rfl (fun w' hSw => ?_) hS0 ?_
         · go_simp
         refine tk 12 (.slice yy.oa yy.on yy.oc) rfl (fun w' hSw => ?_) hS0 ?_
         · obtain ⟨g0,g1,g2,g3,g4,g5,g6,g7,g8,g9⟩:=BxAc.cells hSw
           go_simp
           try rfl
         try simp only [List.getElem_toArray,List.getElem_cons_zero,List.getElem_cons_succ,Act.put,List.setIfInBounds_toArray,List.set_cons_zero,List.set_cons_succ]
         refine wpAnyH_ready (rs:=[7]) (by kernel_rfl) (by simp) ?_
         refine AllReadyH.cons rfl (fun K hK => ?_) AllReadyH.nil
         go_simp
         refine HT1.out.mono ?_;rintro e w3 ⟨rfl,ht3,hd3⟩;try dsimp only
         have HX3:=Lib.hid (HXd.out.touch ht3 (diskNe HSd.out.q.disk HXd.out (by decide) (by decide)))
         have HR3:=Lib.hid (HSd.out.ref1 ht3)
         have HT3:Hid (TwI w3 g yy.o):=Lib.hid (ht3.heap HTd.out (diskNe HSd.out.q.disk HTd.out (by decide) (by decide)))
         have HB3:=Lib.hid (HSTd.out.first ht3 hd3)
         refine hK.out _ _ (HX3.out) (fun hS1 => ?_)
         clear hK K
         try simp only [List.getElem_toArray,List.getElem_cons_zero,List.getElem_cons_succ,Act.put,List.setIfInBounds_toArray,List.set_cons_zero,List.set_cons_succ]
         refine wpAnyH_ready (rs:=[13]) (by kernel_rfl) (by simp) ?_
         refine AllReadyH.cons rfl (fun K hK => ?_) AllReadyH.nil
         go_simp
         refine (rturn_any ts w.heap.size rd rl rc ys cs R yy.p yy.oa yy.on yy.oc yy.o _ w3 HB3.out.rs (HOK.out.o.1.below HR3.out.2) HOK.out.p (by omega) (HSAME.out.fine HF1.out) (by omega) (by rw [HSAME.out.get];exact get_lt32 HSd.out.q.disk _)).mono ?_;rintro e w4 ⟨he,ht4,hr4⟩;try dsimp only
         rw [HTT.out.1] at he;subst he
         have HX4:=Lib.hid (HX3.out.touch ht4 (refNe HR3.out.1 HX3.out (by decide) (by decide)))
         have HT4:Hid (TwI w4 g yy.o):=Lib.hid (ht4.heap HT3.out (refNe HR3.out.1 HT3.out (by decide) (by decide)))
         have HS4:=Lib.hid (HSd.out.both ht3 hd3 ht4 hr4 HTT.out.2)
         refine hK.out _ _ (HX4.out) (fun hS2 => ?_)
         clear hK K
         try simp only [List.getElem_toArray,List.getElem_cons_zero,List.getElem_cons_succ,Act.put,List.setIfInBounds_toArray,List.set_cons_zero,List.set_cons_succ]
         refine tk 14 (.bool false) rfl (fun w' hSw => ?_) hS2 ?_
         · go_simp
         refine tk 15 (.bool false) rfl (fun w' hSw => ?_) hS2 ?_
         · go_simp
         refine tk 16 (.bool false) rfl (fun w' hSw => ?_) hS2 ?_
         · go_simp
         try simp only [List.getElem_toArray,List.getElem_cons_zero,List.getElem_cons_succ,Act.put,List.setIfInBounds_toArray,List.set_cons_zero,List.set_cons_succ]
         refine tk 17 (.slice (some ⟨g,0,none⟩) yy.on (yy.on+1)) rfl (fun w' hSw => ?_) hS2 ?_
         · go_simp
         refine tk 18 (.pointer (some ⟨hx,6,none⟩)) rfl (fun w' hSw => ?_) hS2 ?_
         · go_simp
         refine tk 19 (.slice yy.oa yy.on yy.oc) rfl (fun w' hSw => ?_) hS2 ?_
         · obtain ⟨g0,g1,g2,g3,g4,g5,g6,g7,g8,g9⟩:=BxAc.cells hSw
           go_simp
           try rfl
         try simp only [List.getElem_toArray,List.getElem_cons_zero,List.getElem_cons_succ,Act.put,List.setIfInBounds_toArray,List.set_cons_zero,List.set_cons_succ]
         refine wpAnyH_ready (rs:=[20]) (by kernel_rfl) (by simp) ?_
         refine AllReadyH.cons rfl (fun K hK => ?_) AllReadyH.nil
         go_simp
         refine (leftI_any g yy.oa yy.on yy.oc yy.o w4 (by omega) (HOK.out.o.1.below HS4.out.q.below) HT4.out.twin).mono ?_;rintro e w5 ⟨rfl,hb5⟩;try dsimp only
         have HS5:=Lib.hid (HS4.out.after hb5)
         have HX5:=Lib.hid (HX4.out.below hb5)
         refine hK.out _ _ (HX5.out) (fun hS3 => ?_)
         clear hK K
         try simp only [List.getElem_toArray,List.getElem_cons_zero,List.getElem_cons_succ,Act.put,List.setIfInBounds_toArray,List.set_cons_zero,List.set_cons_succ]
         refine tk 21 (.bool false) rfl (fun w' hSw => ?_) hS3 ?_
         · go_simp
         refine tk 22 (.bool false) rfl (fun w' hSw => ?_) hS3 ?_
         · go_simp
         refine wpAnyH_done (by kernel_rfl) ?_ _
         try simp only [List.getElem_toArray,List.getElem_cons_zero,List.getElem_cons_succ,Act.put,List.setIfInBounds_toArray,List.set_cons_zero,List.set_cons_succ]
         clear HSd HXd HTd hb5 HT1 ht3 hd3 HX3 HR3 HT3 HB3 ht4 hr4 HX4 HT4 HS4 HSTd hee hne
         go_wp2_with fail
         go_meet
         exact ⟨bd,bl,rd,rl,rc,_,_,rfl,rfl,HS5.out,HFT.out.mono (by omega),HX5.out⟩
 · as_aux_lemma =>
     obtain ⟨f9,hf9⟩:∃ f9,yy.n.tmod 12=f9:=⟨_,rfl⟩
     have hf91:-12≤f9:=by have:=Int.lt_tmod_of_pos yy.n (show (0:Int)<12 by decide);omega
     have hf92:f9≤12:=by have:=Int.tmod_lt_of_pos yy.n (show (0:Int)<12 by decide);omega
     have e9:IntKind.i64.wrap f9=f9:=IntWalk.i64_in _ (by omega)
     have HSd:=Lib.hid (HS1.out.after (Below.refl w1.heap.size w1).drew)
     have HXd:Hid (BxAc w1.drew hx yy):=Lib.hid HX1.out
     have v7d:w1.drew.cell? ⟨hx,7,none⟩=some (.int .i64 yy.n):=v7
     have hcode:fcode R.blown=fcode D.blown:=by rw [HS1.out.q.same.2.1]
     have HFU:=Lib.hid (HSd.out.q.same.fuses f9)
     go_wp2_with fail
     go_region_held3 (fun w' => w'.cell? ⟨hx,7,none⟩=some (.int .i64 yy.n)) (first | with_reducible exact v7d | exact q4 | exact q3) (first
       | (go_at_call 17;refine (dfuse_any bd bl D f9 w1.drew HSd.out.q.disk).mono ?_;rintro e w3 ⟨rfl,ht3,hd3⟩;have HX3:=Lib.hid (HXd.out.touch ht3 (diskNe HSd.out.q.disk HXd.out (by decide) (by decide)));have q3:w3.cell? ⟨hx,7,none⟩=some (.int .i64 yy.n):=HX3.out.cells.2.2.2.2.2.2.2.1
          have HR3:=Lib.hid (HSd.out.ref1 ht3);try dsimp only)
       | (go_at_call 18;refine (rfuse_c _ rd rl rc R f9 w3 HR3.out.1).mono ?_;rintro e w4 ⟨he,ht4,hr4⟩;rw [hcode] at he;subst he;have ht4:=ht4.weaken (T:=fun k=>k=rd∨k=rl) (fun k _ hk=>.inl hk);have HX4:=Lib.hid (HX3.out.touch ht4 (refNe HR3.out.1 HX3.out (by decide) (by decide)));have q4:w4.cell? ⟨hx,7,none⟩=some (.int .i64 yy.n):=HX4.out.cells.2.2.2.2.2.2.2.1;try dsimp only)
       | fail)
     have HS4:=Lib.hid (HSd.out.both ht3 hd3 ht4 hr4 HFU.out)
     have HF4:=Lib.hid (fuse_fine HF1.out hf92)
     clear ht3 hd3 ht4 hr4 HR3 HX3 q3 q4 HSd HXd v7d hcode HFU v0 v1 v2 v3 v4 v5 v6 v7 v8 v9 HS1 HX1
     go_wp2_with fail
     go_meet
     exact ⟨bd,bl,rd,rl,rc,_,_,rfl,rfl,HS4.out,HF4.out.mono (by omega),HX4.out⟩
 · as_aux_lemma =>
     go_wp2_with fail
     refine (copy_disk bd bl D w1 HS1.out.q.disk).mono ?_;rintro e w3 ⟨cd,cl,rfl,hb3,k1,k2,hc3⟩;try dsimp only
     have HC3:=Lib.hid hc3
     have HB3:=Lib.hid hb3
     have HR3:=Lib.hid (HS1.out.q.ref.below hb3)
     clear hb3 hc3 v0 v1 v2 v3 v4 v5 v6 v7 v8 v9
     go_wp2_with fail
     refine (rcopy_any _ rd rl rc R w3 HR3.out).mono ?_;rintro e w4 ⟨sd,sl,sc,rfl,hb4,hr4⟩;try dsimp only
     have hsame:=HS1.out.q.same
     obtain ⟨D4,hD4⟩:∃ D4:Dsk,D4=⟨D.secs,-1,false,0⟩:=⟨_,rfl⟩
     obtain ⟨R4,hR4⟩:∃ R4:Dsk,R4=⟨R.secs,-1,false,0⟩:=⟨_,rfl⟩
     have HSM4:Hid (Same D4 R4):=Lib.hid (by rw [hD4,hR4];exact ⟨hsame.1,rfl,rfl,.inl rfl⟩)
     have HF4:Hid (D4.fine (10*((j:Int)+2))):=Lib.hid (by rw [hD4];exact ⟨by dsimp only;omega,by dsimp only;omega,by dsimp only;omega⟩)
     rw [← hD4] at HC3
     rw [← hR4] at hr4
     have HQ4:=Lib.hid (HS1.out.q.copied HB3.out k1 k2 HC3.out hb4 hr4 HSM4.out)
     have HX4:=Lib.hid ((HX1.out.below HB3.out).below hb4)
     have HV4:=Lib.hid ((HS1.out.b.below HB3.out).below hb4)
     have hlt4:=hr4.lt
     clear hb4 hr4 hsame hD4 hR4 HC3 HB3 HR3 k1 k2 HS1 HX1
     go_wp2_with fail
     refine (open_all cd cl D4 w4 HQ4.out.disk).mono ?_;rintro e w5 ⟨s5,rfl,hb5,ho5⟩;try dsimp only
     have HB5:=Lib.hid hb5
     have HR5:=Lib.hid (HQ4.out.ref.below hb5)
     have HO5:=Lib.hid ho5
     have hw5:=hb5.size
     clear hb5 ho5
     go_wp2_with fail
     refine (ropen_all w.heap.size sd sl sc R4 w5 HR5.out).mono ?_;rintro e w6 ⟨t6,rfl,hb6,ho6⟩;try dsimp only
     have hW4:=HQ4.out.below.size
     have hop:opE R4=opE D4:=by unfold opE;rw [HSM4.out.opn]
     rw [hop]
     have HP6:Hid (Prs w w6 cd cl sd sl sc s5 t6 D4 R4):=Lib.hid (by
       rw [HSM4.out.opn] at ho6
       rcases HO5.out with ⟨⟨k,k1⟩,k2⟩ | ⟨c5,k1,bs,yx,k3,k4,k5⟩ <;> rcases ho6 with ⟨⟨l,l1⟩,l2⟩ | ⟨c6,l1,ts,yr,l3,l4,l5⟩
       · exact .inl ⟨k2,l2⟩
       · rw [k1] at l1;cases l1
       · rw [k1] at l1;cases l1
       · rw [k1] at l1;cases l1
         exact .inr ⟨bs,ts,yx,yr,c5,k3,l3,StB.made k4 k5 HR5.out (Touch.of_below hb6) l4 l5 (by omega) (by omega) ⟨by omega,by omega⟩ ⟨by omega,by omega⟩ (open_may k1)⟩)
     have hbb:=HB5.out.trans (hb6.mono HB5.out.size)
     have HS6:Hid (PlS w w6 cd cl sd sl sc bk (1004+30*j) bc x c s5 t6 D4 R4):=Lib.hid ⟨HQ4.out.after hbb,HP6.out,HV4.out.below hbb⟩
     have HX6:=Lib.hid (HX4.out.below hbb)
     obtain ⟨E,hE⟩:∃ E,E=opE D4:=⟨_,rfl⟩
     rw [← hE]
     have hee:(E == E)=true:=by simp
     have hne:(E != E)=false:=by simp
     clear hb6 ho6 hop hbb hE HP6 HQ4 HV4 HX4 HB5 HR5 HO5 HSM4
     go_wp2_with fail
     go_meet
     exact ⟨cd,cl,sd,sl,sc,D4,R4,rfl,rfl,HS6.out,HF4.out,HX6.out⟩
 · as_aux_lemma =>
     have HSd:=Lib.hid (HS1.out.after (Below.refl w1.heap.size w1).drew)
     have HXd:Hid (BxAc w1.drew hx yy):=Lib.hid HX1.out
     have v8d:w1.drew.cell? ⟨hx,8,none⟩=some (.int .i64 yy.at_)∧w1.drew.cell? ⟨hx,9,none⟩=some (.slice yy.ba yy.bn yy.bc):=⟨v8,v9⟩
     have HSW:=Lib.hid (HS1.out.q.same.write yy.at_ yy.b)
     have hcode:=HSW.out.1
     have HFR:=Lib.hid (HS1.out.q.same.fine HF1.out)
     go_wp2_with fail
     go_region_held3 (fun w' => w'.cell? ⟨hx,8,none⟩=some (.int .i64 yy.at_)∧w'.cell? ⟨hx,9,none⟩=some (.slice yy.ba yy.bn yy.bc)) (first | with_reducible exact v8d | exact q4 | exact q3) (first
       | (go_at_call 23;refine (write_any bd bl D yy.at_ yy.ba yy.bn yy.bc yy.b w1.drew HSd.out.q.disk (HOK.out.b.1.below HSd.out.q.below) (HF1.out.ok (by omega))).mono ?_;rintro e w3 ⟨rfl,ht3,hd3⟩;have HX3:=Lib.hid (HXd.out.touch ht3 (diskNe HSd.out.q.disk HXd.out (by decide) (by decide)));have q3:w3.cell? ⟨hx,8,none⟩=some (.int .i64 yy.at_)∧w3.cell? ⟨hx,9,none⟩=some (.slice yy.ba yy.bn yy.bc):=HX3.out.cells.2.2.2.2.2.2.2.2
          have HR3:=Lib.hid (HSd.out.ref1 ht3);try dsimp only)
       | (go_at_call 24;refine (rwrite_any _ rd rl rc R yy.at_ yy.ba yy.bn yy.bc yy.b w3 HR3.out.1 (HOK.out.b.1.below HR3.out.2) (HFR.out.ok (by omega))).mono ?_;rintro e w4 ⟨he,ht4,hr4⟩;rw [hcode] at he;subst he;have HX4:=Lib.hid (HX3.out.touch ht4 (refNe HR3.out.1 HX3.out (by decide) (by decide)));have q4:w4.cell? ⟨hx,8,none⟩=some (.int .i64 yy.at_)∧w4.cell? ⟨hx,9,none⟩=some (.slice yy.ba yy.bn yy.bc):=HX4.out.cells.2.2.2.2.2.2.2.2;try dsimp only)
       | fail)
     have HS4:=Lib.hid (HSd.out.both ht3 hd3 ht4 hr4 HSW.out.2)
     have HF4:=Lib.hid (HF1.out.write yy.at_ yy.b)
     clear ht3 hd3 ht4 hr4 HR3 HX3 q3 q4 HSd HXd v8d hcode HSW HFR v0 v1 v2 v3 v4 v5 v6 v7 v8 v9 HS1 HX1
     go_wp2_with fail
     go_meet
     exact ⟨bd,bl,rd,rl,rc,_,_,rfl,rfl,HS4.out,HF4.out.mono (by omega),HX4.out⟩
 · as_aux_lemma =>
     have HC1:=Lib.hid (HC.out.below HS1.out.q.below)
     go_wp2_with (first
       | (refine wpList_load_mid rfl 27 (.tmp 4) rfl bc 0 rfl (x.cells c.t) _ HS1.out.b.row Tryz.underlying27 rfl infoCfg5 ?_)
       | fail)
     refine (make_all _ bd bl D x c _ w1 HS1.out.q.disk HC1.out (fun k hk e=>by have:=HS1.out.q.dge;omega) HF1.out (by omega)).mono ?_
     rintro e w3 ⟨s3,rfl,ht3,hd3,-⟩;try dsimp only
     have HX3:=Lib.hid (HX1.out.touch ht3 (diskNe HS1.out.q.disk HX1.out (by decide) (by decide)))
     have HV3:=Lib.hid (HS1.out.b.touch ht3 (diskNe HS1.out.q.disk HS1.out.b (by decide) (by decide)))
     have HR3:=Lib.hid (HS1.out.ref1 ht3)
     have HT3:=Lib.hid ht3
     have HD3:=Lib.hid hd3
     have HMK:=Lib.hid (HS1.out.q.same.make c)
     have HF3:=Lib.hid (makeD_fine (c:=c) HF1.out)
     have HC3:=Lib.hid (HC.out.below HR3.out.2)
     obtain ⟨E,hE⟩:∃ E,E=(makeD c D).1:=⟨_,rfl⟩
     rw [← hE] at HMK ⊢
     clear ht3 hd3 hE v0 v1 v2 v3 v4 v5 v6 v7 v8 v9 HC1
     have hrle:=HR3.out.1.le
     have hrlt:=HR3.out.1.lt
     go_wp2_with (first
       | (refine wpList_load_mid rfl 27 (.tmp 4) rfl bc 0 rfl (x.cells c.t) _ HV3.out.row Tryz.underlying27 rfl infoCfg5 ?_)
       | fail)
     refine (rmake_all _ w.heap.size rd rl rc R x c _ w3 HR3.out.1 HC3.out (fun k hk e=>by omega) (HS1.out.q.same.fine HF1.out) (by omega)).mono ?_
     rintro e w4 ⟨t4,rfl,ht4,hr4,-⟩;try dsimp only
     rw [HMK.out.1]
     have HX4:=Lib.hid (HX3.out.touch ht4 (refNe HR3.out.1 HX3.out (by decide) (by decide)))
     have HS4:=Lib.hid (HS1.out.both HT3.out HD3.out ht4 hr4 HMK.out.2)
     have hee:(E == E)=true:=by simp
     have hne:(E != E)=false:=by simp
     clear ht4 hr4 HT3 HD3 HMK HR3 HV3 HX3 HC3 HS1 HX1 hrle hrlt
     go_wp2_with fail
     go_meet
     exact ⟨bd,bl,rd,rl,rc,_,_,rfl,rfl,HS4.out,HF3.out.mono (by omega),HX4.out⟩
 · rcases HS1.out.p with ⟨rfl,rfl⟩ | ⟨bs,ts,xs,ys,cs,rfl,rfl,hst⟩
   · as_aux_lemma =>
       have h4:((f10:Int) == 4)=false:=by rw [beq_eq_false_iff_ne];omega
       have h5:((f10:Int) == 5)=false:=by rw [beq_eq_false_iff_ne];omega
       have h6:((f10:Int) == 6)=false:=by rw [beq_eq_false_iff_ne];omega
       have h7:((f10:Int) == 7)=false:=by rw [beq_eq_false_iff_ne];omega
       have h8:((f10:Int) == 8)=false:=by rw [beq_eq_false_iff_ne];omega
       have h9:((f10:Int) == 9)=false:=by rw [beq_eq_false_iff_ne];omega
       go_wp2_with (first
         | (refine wpList_load_mid rfl 60 (.tmp 101) rfl hx 2 rfl [.int .u32 yy.r.sq,.bool yy.r.st,.slice yy.r.a yy.r.n yy.r.c] _ HX1.out.rec Tryz.underlying60 rfl infoRec3 ?_)
         | fail)
       clear h4 h5 h6 h7 h8 h9 hk m1 m2 m3
       have hrl:yy.r.l.length≤1000000:=by have:=HOK.out.r.i.1;omega
       refine (twinR_tw yy.r.sq yy.r.st yy.r.a yy.r.n yy.r.c yy.r.l w1 (HOK.out.r.i.below HS1.out.q.below) hrl).mono ?_
       rintro e w2 ⟨g,rfl,hb2,htg,hgg⟩;try dsimp only
       rw [← HOK.out.r.i.1]
       have HLR:Hid (∀ w',Below w.heap.size w w'→TwI w' g yy.r.l→Calls Tryz.prog 28 #[.agg #[.int .u32 yy.r.sq,.bool yy.r.st,.slice (some ⟨g,0,none⟩) yy.r.n (yy.r.n+1)],.agg #[.int .u32 yy.r.sq,.bool yy.r.st,.slice yy.r.a yy.r.n yy.r.c]] w' fun e w'' => e=.returned (.bool true)∧Below w'.heap.size w' w''):=Lib.hid (fun w' hb ht=>by
         have:=leftR_any yy.r.sq g yy.r.st yy.r.a yy.r.n yy.r.c yy.r.l w' (HOK.out.r.i.below hb) hrl ht
         rwa [← HOK.out.r.i.1] at this)
       have hal:Below w2.heap.size w2 (w2.alloc (.cells #[.int .u32 yy.r.sq,.bool yy.r.st,.slice (some ⟨g,0,none⟩) yy.r.n (yy.r.n+1)] 60)):=(Below.refl _ _).alloc (Nat.le_refl _) _
       have hbx:=hb2.trans (hal.mono hb2.size)
       have HV3:Hid (BxRc (w2.alloc (.cells #[.int .u32 yy.r.sq,.bool yy.r.st,.slice (some ⟨g,0,none⟩) yy.r.n (yy.r.n+1)] 60)) w2.heap.size yy.r.sq yy.r.st (some ⟨g,0,none⟩) yy.r.n (yy.r.n+1)):=Lib.hid (heap_new w2 _)
       have HS3:=Lib.hid (HS1.out.after hbx)
       have HX3:=Lib.hid (HX1.out.below hbx)
       have HT3:Hid (TwI (w2.alloc (.cells #[.int .u32 yy.r.sq,.bool yy.r.st,.slice (some ⟨g,0,none⟩) yy.r.n (yy.r.n+1)] 60)) g yy.r.l):=Lib.hid (below_heap hal htg (lt_of_heap htg))
       have HONR:=Lib.hid (rec_oneP yy.r.sq yy.r.st (some ⟨g,0,none⟩) yy.r.n (yy.r.n+1))
       clear hb2 htg hgg hal hbx v0 v1 v2 v3 v4 v5 v6 v7 v8 v9 HS1 HX1
       go_wp2_with (first
         | (refine wpList_declare rfl rfl 60 rfl (.tmp 24) (.tmp 103) rfl _ zeroRec3 #[.int .u32 yy.r.sq,.bool yy.r.st,.slice (some ⟨g,0,none⟩) yy.r.n (yy.r.n+1)] rfl (by rw [infoRec3];rfl) rfl rfl (by simpa using HONR.out) ?_)
         | fail)
       generalize w2.alloc (.cells #[.int .u32 yy.r.sq,.bool yy.r.st,.slice (some ⟨g,0,none⟩) yy.r.n (yy.r.n+1)] 60)=w3 at HV3 HS3 HX3 HT3 ⊢
       obtain ⟨b24,hb24⟩:∃ b24,b24=w2.heap.size:=⟨_,rfl⟩
       rw [← hb24] at HV3 ⊢
       clear hb24 HONR
       have hbd:Below w3.heap.size w3 w3.drew:=(Below.refl w3.heap.size w3).drew
       have HSd:=Lib.hid (HS3.out.after hbd)
       have HXd:=Lib.hid (HX3.out.below hbd)
       have HVd:=Lib.hid (HV3.out.below hbd)
       have HTd:Hid (TwI w3.drew g yy.r.l):=Lib.hid HT3.out
       clear HS3 HX3 HV3 HT3 hbd
       refine wp_region_held_drew (S:=(fun w':World=>BxAc w' hx yy∧BxRc w' b24 yy.r.sq yy.r.st (some ⟨g,0,none⟩) yy.r.n (yy.r.n+1))) (by kernel_rfl) (⟨HXd.out,HVd.out⟩) (fun hS0 => ?_)
       refine tk 0 (.pointer none) rfl (fun w' hSw => ?_) hS0 ?_
       · go_simp
       refine tk 1 (.bool false) rfl (fun w' hSw => ?_) hS0 ?_
       · go_simp
       refine tk 2 (.bool false) rfl (fun w' hSw => ?_) hS0 ?_
       · go_simp
       try simp only [List.getElem_toArray,List.getElem_cons_zero,List.getElem_cons_succ,Act.put,List.setIfInBounds_toArray,List.set_cons_zero,List.set_cons_succ]
       refine tn 3 rfl hS0 ?_
       refine tn 4 rfl hS0 ?_
       refine tn 5 rfl hS0 ?_
       try simp only [List.getElem_toArray,List.getElem_cons_zero,List.getElem_cons_succ,Act.put,List.setIfInBounds_toArray,List.set_cons_zero,List.set_cons_succ]
       refine tn 6 rfl hS0 ?_
       refine tn 7 rfl hS0 ?_
       refine tn 8 rfl hS0 ?_
       try simp only [List.getElem_toArray,List.getElem_cons_zero,List.getElem_cons_succ,Act.put,List.setIfInBounds_toArray,List.set_cons_zero,List.set_cons_succ]
       refine tn 9 rfl hS0 ?_
       refine tn 10 rfl hS0 ?_
       refine tn 11 rfl hS0 ?_
       try simp only [List.getElem_toArray,List.getElem_cons_zero,List.getElem_cons_succ,Act.put,List.setIfInBounds_toArray,List.set_cons_zero,List.set_cons_succ]
       refine tn 12 rfl hS0 ?_
       refine tn 13 rfl hS0 ?_
       refine tn 14 rfl hS0 ?_
       try simp only [List.getElem_toArray,List.getElem_cons_zero,List.getElem_cons_succ,Act.put,List.setIfInBounds_toArray,List.set_cons_zero,List.set_cons_succ]
       refine tk 15 (.bool false) rfl (fun w' hSw => ?_) hS0 ?_
       · go_simp
       refine tk 16 (.bool false) rfl (fun w' hSw => ?_) hS0 ?_
       · go_simp
       refine tk 17 (.agg #[.int .u32 yy.r.sq,.bool yy.r.st,.slice (some ⟨g,0,none⟩) yy.r.n (yy.r.n+1)]) rfl (fun w' hSw => ?_) hS0 ?_
       · obtain ⟨g0,g1,g2,g3,g4,g5,g6,g7,g8,g9⟩:=BxAc.cells hSw.1
         obtain ⟨f0,f1,f2⟩:=BxRc.cells hSw.2
         go_simp
         try rfl
       try simp only [List.getElem_toArray,List.getElem_cons_zero,List.getElem_cons_succ,Act.put,List.setIfInBounds_toArray,List.set_cons_zero,List.set_cons_succ]
       refine tk 18 (.pointer (some ⟨hx,2,none⟩)) rfl (fun w' hSw => ?_) hS0 ?_
       · go_simp
       refine tk 19 (.agg #[.int .u32 yy.r.sq,.bool yy.r.st,.slice yy.r.a yy.r.n yy.r.c]) rfl (fun w' hSw => ?_) hS0 ?_
       · obtain ⟨g0,g1,g2,g3,g4,g5,g6,g7,g8,g9⟩:=BxAc.cells hSw.1
         obtain ⟨f0,f1,f2⟩:=BxRc.cells hSw.2
         go_simp
         try rfl
       try simp only [List.getElem_toArray,List.getElem_cons_zero,List.getElem_cons_succ,Act.put,List.setIfInBounds_toArray,List.set_cons_zero,List.set_cons_succ]
       refine wpAnyH_ready (rs:=[20]) (by kernel_rfl) (by simp) ?_
       refine AllReadyH.cons rfl (fun K hK => ?_) AllReadyH.nil
       go_simp
       refine (HLR.out w3.drew HSd.out.q.below HTd.out).mono ?_;rintro e w5 ⟨rfl,hb5⟩;try dsimp only
       have HS5:=Lib.hid (HSd.out.after hb5)
       have HX5:=Lib.hid (HXd.out.below hb5)
       have HV5:=Lib.hid (HVd.out.below hb5)
       refine hK.out _ _ (⟨HX5.out,HV5.out⟩) (fun hS1 => ?_)
       clear hK K
       try simp only [List.getElem_toArray,List.getElem_cons_zero,List.getElem_cons_succ,Act.put,List.setIfInBounds_toArray,List.set_cons_zero,List.set_cons_succ]
       refine tk 21 (.bool false) rfl (fun w' hSw => ?_) hS1 ?_
       · go_simp
       refine tk 22 (.bool false) rfl (fun w' hSw => ?_) hS1 ?_
       · go_simp
       refine wpAnyH_done (by kernel_rfl) ?_ _
       try simp only [List.getElem_toArray,List.getElem_cons_zero,List.getElem_cons_succ,Act.put,List.setIfInBounds_toArray,List.set_cons_zero,List.set_cons_succ]
       clear HSd HXd HVd HTd hb5 HV5
       go_wp2_with fail
       go_meet
       exact ⟨bd,bl,rd,rl,rc,D,R,rfl,rfl,HS5.out,HF1.out.mono (by omega),HX5.out⟩
   · as_aux_lemma =>
       have hmay:=(mayB_iff cs).1 hst.may
       have hs8:=hmay.s.2
       have hr8:=hmay.r.2.1
       have HST:=Lib.hid hst
       clear hst hmay
       have h4:((f10:Int) == 4)=false:=by rw [beq_eq_false_iff_ne];omega
       have h5:((f10:Int) == 5)=false:=by rw [beq_eq_false_iff_ne];omega
       have h6:((f10:Int) == 6)=false:=by rw [beq_eq_false_iff_ne];omega
       have h7:((f10:Int) == 7)=false:=by rw [beq_eq_false_iff_ne];omega
       have h8:((f10:Int) == 8)=false:=by rw [beq_eq_false_iff_ne];omega
       have h9:((f10:Int) == 9)=false:=by rw [beq_eq_false_iff_ne];omega
       go_wp2_with (first
         | (refine wpList_load_mid rfl 60 (.tmp 101) rfl hx 2 rfl [.int .u32 yy.r.sq,.bool yy.r.st,.slice yy.r.a yy.r.n yy.r.c] _ HX1.out.rec Tryz.underlying60 rfl infoRec3 ?_)
         | fail)
       clear h4 h5 h6 h7 h8 h9 hk m1 m2 m3
       have hrl:yy.r.l.length≤1000000:=by have:=HOK.out.r.i.1;omega
       refine (twinR_tw yy.r.sq yy.r.st yy.r.a yy.r.n yy.r.c yy.r.l w1 (HOK.out.r.i.below HS1.out.q.below) hrl).mono ?_
       rintro e w2 ⟨g,rfl,hb2,htg,hgg⟩;try dsimp only
       rw [← HOK.out.r.i.1]
       have HLR:Hid (∀ w',Below w.heap.size w w'→TwI w' g yy.r.l→Calls Tryz.prog 28 #[.agg #[.int .u32 yy.r.sq,.bool yy.r.st,.slice (some ⟨g,0,none⟩) yy.r.n (yy.r.n+1)],.agg #[.int .u32 yy.r.sq,.bool yy.r.st,.slice yy.r.a yy.r.n yy.r.c]] w' fun e w'' => e=.returned (.bool true)∧Below w'.heap.size w' w''):=Lib.hid (fun w' hb ht=>by
         have:=leftR_any yy.r.sq g yy.r.st yy.r.a yy.r.n yy.r.c yy.r.l w' (HOK.out.r.i.below hb) hrl ht
         rwa [← HOK.out.r.i.1] at this)
       have hal:Below w2.heap.size w2 (w2.alloc (.cells #[.int .u32 yy.r.sq,.bool yy.r.st,.slice (some ⟨g,0,none⟩) yy.r.n (yy.r.n+1)] 60)):=(Below.refl _ _).alloc (Nat.le_refl _) _
       have hbx:=hb2.trans (hal.mono hb2.size)
       have HV3:Hid (BxRc (w2.alloc (.cells #[.int .u32 yy.r.sq,.bool yy.r.st,.slice (some ⟨g,0,none⟩) yy.r.n (yy.r.n+1)] 60)) w2.heap.size yy.r.sq yy.r.st (some ⟨g,0,none⟩) yy.r.n (yy.r.n+1)):=Lib.hid (heap_new w2 _)
       have HS3:=Lib.hid (HS1.out.after hbx)
       have HX3:=Lib.hid (HX1.out.below hbx)
       have HT3:Hid (TwI (w2.alloc (.cells #[.int .u32 yy.r.sq,.bool yy.r.st,.slice (some ⟨g,0,none⟩) yy.r.n (yy.r.n+1)] 60)) g yy.r.l):=Lib.hid (below_heap hal htg (lt_of_heap htg))
       have HST3:=Lib.hid (HST.out.after hbx)
       have HONR:=Lib.hid (rec_oneP yy.r.sq yy.r.st (some ⟨g,0,none⟩) yy.r.n (yy.r.n+1))
       clear HST hb2 htg hgg hal hbx v0 v1 v2 v3 v4 v5 v6 v7 v8 v9 HS1 HX1
       go_wp2_with (first
         | (refine wpList_declare rfl rfl 60 rfl (.tmp 24) (.tmp 103) rfl _ zeroRec3 #[.int .u32 yy.r.sq,.bool yy.r.st,.slice (some ⟨g,0,none⟩) yy.r.n (yy.r.n+1)] rfl (by rw [infoRec3];rfl) rfl rfl (by simpa using HONR.out) ?_)
         | fail)
       generalize w2.alloc (.cells #[.int .u32 yy.r.sq,.bool yy.r.st,.slice (some ⟨g,0,none⟩) yy.r.n (yy.r.n+1)] 60)=w3 at HV3 HS3 HX3 HT3 HST3 ⊢
       obtain ⟨b24,hb24⟩:∃ b24,b24=w2.heap.size:=⟨_,rfl⟩
       rw [← hb24] at HV3 ⊢
       clear hb24 HONR
       have hbd:Below w3.heap.size w3 w3.drew:=(Below.refl w3.heap.size w3).drew
       have HSd:=Lib.hid (HS3.out.after hbd)
       have HXd:=Lib.hid (HX3.out.below hbd)
       have HVd:=Lib.hid (HV3.out.below hbd)
       have HTd:Hid (TwI w3.drew g yy.r.l):=Lib.hid HT3.out
       have HSTd:=Lib.hid (HST3.out.after hbd)
       clear HS3 HX3 HV3 HT3 HST3 hbd
       have HSAME:=Lib.hid HSd.out.q.same
       have hti:IsI w3.drew (some ⟨g,0,none⟩) yy.r.n (yy.r.n+1) yy.r.l:=⟨HOK.out.r.i.1,by have:=HOK.out.r.i.1;omega,by unfold maxLen;omega,.inr ⟨g,0,rfl,lt_of_heap HTd.out,fun i hi=>by rw [Nat.zero_add];exact HTd.out.twin.2.1 i hi⟩⟩
       have HT1:=Lib.hid (set_all bs bd bl xs cs D yy.who yy.r.sq yy.r.st (some ⟨g,0,none⟩) yy.r.n (yy.r.n+1) yy.r.l _ w3.drew HSTd.out.ps hti HOK.out.r.sq (by omega) (by omega) HF1.out (by omega) (fun i hi=>get_lt32 HSTd.out.ps.disk _))
       have HTT:=Lib.hid (HSAME.out.set cs.s.length cs.r.length yy.who ⟨yy.r.sq,yy.r.st,yy.r.l⟩)
       have HFT:=Lib.hid (setD_fine HF1.out cs.s.length cs.r.length yy.who ⟨yy.r.sq,yy.r.st,yy.r.l⟩)
       obtain ⟨E,hE⟩:∃ E,E=(setD cs.s.length cs.r.length D yy.who ⟨yy.r.sq,yy.r.st,yy.r.l⟩).1:=⟨_,rfl⟩
       rw [← hE] at HT1 HTT
       clear hE hti
       have hee:(E == E)=true:=by simp
       have hne:(E != E)=false:=by simp
       refine wp_region_held_drew (S:=(fun w':World=>BxAc w' hx yy∧BxRc w' b24 yy.r.sq yy.r.st (some ⟨g,0,none⟩) yy.r.n (yy.r.n+1))) (by kernel_rfl) (⟨HXd.out,HVd.out⟩) (fun hS0 => ?_)
       refine tk 0 (.pointer (some ⟨ts,0,none⟩)) rfl (fun w' hSw => ?_) hS0 ?_
       · go_simp
       refine tk 1 (.bool true) rfl (fun w' hSw => ?_) hS0 ?_
       · go_simp
       refine tk 2 (.bool true) rfl (fun w' hSw => ?_) hS0 ?_
       · go_simp
       try simp only [List.getElem_toArray,List.getElem_cons_zero,List.getElem_cons_succ,Act.put,List.setIfInBounds_toArray,List.set_cons_zero,List.set_cons_succ]
       refine tk 3 (.pointer (some ⟨bs,0,none⟩)) rfl (fun w' hSw => ?_) hS0 ?_
       · go_simp
       refine tk 4 (.pointer (some ⟨hx,1,none⟩)) rfl (fun w' hSw => ?_) hS0 ?_
       · go_simp
       refine tk 5 (.int .i64 yy.who) rfl (fun w' hSw => ?_) hS0 ?_
       · obtain ⟨g0,g1,g2,g3,g4,g5,g6,g7,g8,g9⟩:=BxAc.cells hSw.1
         obtain ⟨f0,f1,f2⟩:=BxRc.cells hSw.2
         go_simp
         try rfl
       try simp only [List.getElem_toArray,List.getElem_cons_zero,List.getElem_cons_succ,Act.put,List.setIfInBounds_toArray,List.set_cons_zero,List.set_cons_succ]
       refine tk 6 (.agg #[.int .u32 yy.r.sq,.bool yy.r.st,.slice (some ⟨g,0,none⟩) yy.r.n (yy.r.n+1)]) rfl (fun w' hSw => ?_) hS0 ?_
       · obtain ⟨g0,g1,g2,g3,g4,g5,g6,g7,g8,g9⟩:=BxAc.cells hSw.1
         obtain ⟨f0,f1,f2⟩:=BxRc.cells hSw.2
         go_simp
         try rfl
       refine tk 8 (.pointer (some ⟨ts,0,none⟩)) rfl (fun w' hSw => ?_) hS0 ?_
       · go_simp
       refine tk 9 (.pointer (some ⟨hx,1,none⟩)) rfl (fun w' hSw => ?_) hS0 ?_
       · go_simp
       try simp only [List.getElem_toArray,List.getElem_cons_zero,List.getElem_cons_succ,Act.put,List.setIfInBounds_toArray,List.set_cons_zero,List.set_cons_succ]
       refine tk 10 (.int .i64 yy.who) rfl (fun w' hSw => ?_) hS0 ?_
       · obtain ⟨g0,g1,g2,g3,g4,g5,g6,g7,g8,g9⟩:=BxAc.cells hSw.1
         obtain ⟨f0,f1,f2⟩:=BxRc.cells hSw.2
         go_simp
         try rfl
       refine tk 11 (.pointer (some ⟨hx,2,none⟩)) rfl (fun w' hSw => ?_) hS0 ?_
       · go_simp
       refine tk 12 (.agg #[.int .u32 yy.r.sq,.bool yy.r.st,.slice yy.r.a yy.r.n yy.r.c]) rfl (fun w' hSw => ?_) hS0 ?_
       · obtain ⟨g0,g1,g2,g3,g4,g5,g6,g7,g8,g9⟩:=BxAc.cells hSw.1
         obtain ⟨f0,f1,f2⟩:=BxRc.cells hSw.2
         go_simp
         try rfl
       try simp only [List.getElem_toArray,List.getElem_cons_zero,List.getElem_cons_succ,Act.put,List.setIfInBounds_toArray,List.set_cons_zero,List.set_cons_succ]
       refine wpAnyH_ready (rs:=[7]) (by kernel_rfl) (by simp) ?_
       refine AllReadyH.cons rfl (fun K hK => ?_) AllReadyH.nil
       go_simp
       refine HT1.out.mono ?_;rintro e w3 ⟨rfl,ht3,hd3⟩;try dsimp only
       have HX3:=Lib.hid (HXd.out.touch ht3 (diskNe HSd.out.q.disk HXd.out (by decide) (by decide)))
       have HV3:=Lib.hid (HVd.out.touch ht3 (diskNe HSd.out.q.disk HVd.out (by decide) (by decide)))
       have HR3:=Lib.hid (HSd.out.ref1 ht3)
       have HT3:Hid (TwI w3 g yy.r.l):=Lib.hid (ht3.heap HTd.out (diskNe HSd.out.q.disk HTd.out (by decide) (by decide)))
       have HB3:=Lib.hid (HSTd.out.first ht3 hd3)
       refine hK.out _ _ (⟨HX3.out,HV3.out⟩) (fun hS1 => ?_)
       clear hK K
       try simp only [List.getElem_toArray,List.getElem_cons_zero,List.getElem_cons_succ,Act.put,List.setIfInBounds_toArray,List.set_cons_zero,List.set_cons_succ]
       refine wpAnyH_ready (rs:=[13]) (by kernel_rfl) (by simp) ?_
       refine AllReadyH.cons rfl (fun K hK => ?_) AllReadyH.nil
       go_simp
       refine (rset_all ts w.heap.size rd rl rc ys cs R yy.who yy.r.sq yy.r.st yy.r.a yy.r.n yy.r.c yy.r.l _ w3 HB3.out.rs (HOK.out.r.i.below HR3.out.2) HOK.out.r.sq (by omega) (by omega) (HSAME.out.fine HF1.out) (by omega) (fun i hi=>by rw [HSAME.out.get];exact get_lt32 HSd.out.q.disk _)).mono ?_;rintro e w4 ⟨he,ht4,hr4⟩;try dsimp only
       rw [HTT.out.1] at he;subst he
       have HX4:=Lib.hid (HX3.out.touch ht4 (refNe HR3.out.1 HX3.out (by decide) (by decide)))
       have HV4:=Lib.hid (HV3.out.touch ht4 (refNe HR3.out.1 HV3.out (by decide) (by decide)))
       have HT4:Hid (TwI w4 g yy.r.l):=Lib.hid (ht4.heap HT3.out (refNe HR3.out.1 HT3.out (by decide) (by decide)))
       have HS4:=Lib.hid (HSd.out.both ht3 hd3 ht4 hr4 HTT.out.2)
       refine hK.out _ _ (⟨HX4.out,HV4.out⟩) (fun hS2 => ?_)
       clear hK K
       try simp only [List.getElem_toArray,List.getElem_cons_zero,List.getElem_cons_succ,Act.put,List.setIfInBounds_toArray,List.set_cons_zero,List.set_cons_succ]
       refine tk 14 (.bool false) rfl (fun w' hSw => ?_) hS2 ?_
       · go_simp
       refine tk 15 (.bool false) rfl (fun w' hSw => ?_) hS2 ?_
       · go_simp
       refine tk 16 (.bool false) rfl (fun w' hSw => ?_) hS2 ?_
       · go_simp
       try simp only [List.getElem_toArray,List.getElem_cons_zero,List.getElem_cons_succ,Act.put,List.setIfInBounds_toArray,List.set_cons_zero,List.set_cons_succ]
       refine tk 17 (.agg #[.int .u32 yy.r.sq,.bool yy.r.st,.slice (some ⟨g,0,none⟩) yy.r.n (yy.r.n+1)]) rfl (fun w' hSw => ?_) hS2 ?_
       · obtain ⟨g0,g1,g2,g3,g4,g5,g6,g7,g8,g9⟩:=BxAc.cells hSw.1
         obtain ⟨f0,f1,f2⟩:=BxRc.cells hSw.2
         go_simp
         try rfl
       refine tk 18 (.pointer (some ⟨hx,2,none⟩)) rfl (fun w' hSw => ?_) hS2 ?_
       · go_simp
       refine tk 19 (.agg #[.int .u32 yy.r.sq,.bool yy.r.st,.slice yy.r.a yy.r.n yy.r.c]) rfl (fun w' hSw => ?_) hS2 ?_
       · obtain ⟨g0,g1,g2,g3,g4,g5,g6,g7,g8,g9⟩:=BxAc.cells hSw.1
         obtain ⟨f0,f1,f2⟩:=BxRc.cells hSw.2
         go_simp
         try rfl
       try simp only [List.getElem_toArray,List.getElem_cons_zero,List.getElem_cons_succ,Act.put,List.setIfInBounds_toArray,List.set_cons_zero,List.set_cons_succ]
       refine wpAnyH_ready (rs:=[20]) (by kernel_rfl) (by simp) ?_
       refine AllReadyH.cons rfl (fun K hK => ?_) AllReadyH.nil
       go_simp
       refine (HLR.out w4 HS4.out.q.below HT4.out).mono ?_;rintro e w5 ⟨rfl,hb5⟩;try dsimp only
       have HS5:=Lib.hid (HS4.out.after hb5)
       have HX5:=Lib.hid (HX4.out.below hb5)
       have HV5:=Lib.hid (HV4.out.below hb5)
       refine hK.out _ _ (⟨HX5.out,HV5.out⟩) (fun hS3 => ?_)
       clear hK K
       try simp only [List.getElem_toArray,List.getElem_cons_zero,List.getElem_cons_succ,Act.put,List.setIfInBounds_toArray,List.set_cons_zero,List.set_cons_succ]
       refine tk 21 (.bool false) rfl (fun w' hSw => ?_) hS3 ?_
       · go_simp
       refine tk 22 (.bool false) rfl (fun w' hSw => ?_) hS3 ?_
       · go_simp
       refine wpAnyH_done (by kernel_rfl) ?_ _
       try simp only [List.getElem_toArray,List.getElem_cons_zero,List.getElem_cons_succ,Act.put,List.setIfInBounds_toArray,List.set_cons_zero,List.set_cons_succ]
       clear HSd HXd HVd HTd hb5 HT1 ht3 hd3 HX3 HV3 HR3 HT3 HB3 ht4 hr4 HX4 HV4 HT4 HS4 HSTd hee hne HV5
       go_wp2_with fail
       go_meet
       exact ⟨bd,bl,rd,rl,rc,_,_,rfl,rfl,HS5.out,HFT.out.mono (by omega),HX5.out⟩
end Go.Proofs.YtgbikngicidbkaaGreatDoor
