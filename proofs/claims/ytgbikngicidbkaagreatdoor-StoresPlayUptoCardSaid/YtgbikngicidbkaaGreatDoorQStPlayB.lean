/- The statement StoresPlay: one round,a theorem of its own;conditions: those typed. (Written by split_play.py.) -/
import Derived.Test.YtgbikngicidbkaaGreatDoorQStPlayA
namespace Go.Proofs.YtgbikngicidbkaaGreatDoor
open Go.RowKit
set_option linter.unusedVariables false
set_option linter.unusedSimpArgs false
set_option maxRecDepth 100000
def PlMore (W:World) (bk j bc:Nat) (x:StA) (c:StC) (d m s t:Value) (wx:World):Prop :=
 ∃ (bd bl rd rl rc:Nat) (D R:Dsk),d=.pointer (some ⟨bd,0,none⟩)∧m=.pointer (some ⟨rd,0,none⟩)∧PlS W wx bd bl rd rl rc bk (1004+30*(j+1)) bc x c s t D R∧D.fine (10*(((j+1:Nat):Int)+1))
noncomputable def roundCode:Code:=((Tryz.f3.body.bind (blkOf 1)).getD .skip)
set_option maxHeartbeats 64000000 in
theorem play_round (x:StA) (c:StC) (w wr:World) (la:Option Addr) (lc bc bk bd bl rd rl rc j M:Nat) (L:List AcV) (D R:Dsk)
   (u0 u1 u3 u5 u6 u8 u10 u11 u12 u13 u16 u17 u18 u19 u20 u21 u22 u23 u24 u25 u26 u27 u28 u29 u30 u31 u32 u33 u34 u35 u36 u37 u38 u39 u40 u41 u42 u43 u44 u45 u46 u47 u48 u49 u50 u51 u52 u53 u54 u55 u56 u57 u58 u59 u60 u61 u62 u63 u64 u65
   u66 u67 u68 u69 u70 u71 u72 u73 u74 u75 u76 u77 u78 u79 u80 u81 u82 u83 u84 u85 u86 u87 u88 u89 u90 u91 u92 u93 u94 u95 u96 u97 u98 u99 u100 u101 u102 u103 u104 u105 u106 u107 u108 u109 u110 u111 u112 u113 u114 u115 u116 u117 u118 u119 u120 u121 u122 u123 u124 u125
   u126 u127 u128 u129 u130 u131 u132 u133 u134 u135 u136 u137 u138 u139 u140 u141 u142 u143 u144 u145 u146 u147 u148 u149 u150 u151 u152 u153 u154 u155 u156 u157 u158 u159 u160 u161 u162 u163 u164 u165 u166 u167 u168 u169 u170 u171 u172 u173 u174 u175 u176 u177 u178 u179 u180 u181 u182 u183 u184 u185
   u186 u187 u188 u189 u190 u191 u192 u193 u194 u195 u196 u197 u198 u199 u200 u201 u202 u203 u204 u205 u206 u207 u208 u209 u210 u211 u212 u213 u214 u215 u216 u217 u218 u219 u220 u221 u222 u223 u224 u225 u226 u227 u228 u229 u230 u231 u232 u233 u234 u235 u236 u237 u238 u239 u240 u241 u242 u243 u244 u245
   u246 u247 u248 u249 u250 u251 u252 u253 u254 u255 u256 u257 u258 u259 u260 u261 u262 u263 u264 u265 u266 u267 u268 u269 u270 u271 u272 u273 u274 u275 u276 u277 u278 u279 u280 u281 u282 u283 u284 u285 u286 u287 u288 u289 u290 u291 u292 u293 u294 u295 u296 u297 u298 u299 u300 u301 u302 u303 u304 u305
   u306 u307 u308 u309 u310 u311 u312 u313 u314 u315 u316 u317 u318 u319 u320 u321 u322 u323 u324 u325 u326 u327 u328 u329:Value)
   (HL:Hid (IsRows AcV.cells 10 w la L.length lc L)) (HA:Hid (∀ y ∈ L,AcOk w y)) (HSM:Hid (∀ y ∈ L,AcSm y)) (HCD:Hid (CfgSm c.d 1048576)) (HCM:Hid (CfSm c)) (HC:Hid (IsCf w (fun k=>k<w.heap.size) x c)) (hct:c.t<18446744073709551616) (hcs:c.s.length≤250) (HLEN:Hid (∀ y ∈ L,y.r.n≤250∧y.on≤250∧y.bn≤10039)) (HM:Hid (M=L.length)) (hM62:M≤62) (hlt:j<M) (HS:Hid (PlS w wr bd bl rd rl rc bk (1004+30*j) bc x c u12 u13 D R∧D.fine (10*((j:Int)+1))))
   (J K:Act→World→Prop)
   (hJ:∀ (a':Act) (w':World),(∃ z6 z7 z9 z10 z12 z13 z16 z17 z18 z19 z20 z21 z22 z23 z24 z25 z26 z27 z28 z29 z30 z31 z32 z33 z34 z35 z36 z37 z38 z88 z89 z90 z91 z92 z93 z94 z95 z96 z97 z98 z99 z100 z101 z102 z103 z104 z105 z106 z107 z108 z109 z110 z111 z112 z113 z114 z115 z116 z117 z118
   z119 z120 z121 z122 z123 z124 z125 z126 z127 z128 z129 z130 z131 z132 z133 z134 z135 z136 z137 z138 z139 z140 z141 z142 z143 z144 z145 z146 z147 z148 z149 z150 z151 z152 z153 z154 z155 z156 z157 z158 z159 z160 z161 z162 z163 z164 z165 z166 z167 z168 z169 z170 z171 z172 z173 z174 z175 z176 z177 z178
   z179 z180 z181 z182 z183 z184 z185 z186 z187 z188 z189 z190 z191 z192 z193 z194 z195 z196 z197 z198 z199 z200 z201 z202 z203 z204 z205 z206 z207 z208 z209 z210 z211 z212 z213 z214 z215 z216 z217 z218 z219 z220 z221 z222 z223 z224 z225 z226 z227 z228 z229 z230 z231 z232 z233 z234 z235 z236 z237 z238
   z239 z240 z241 z242 z243 z244 z245 z246 z247 z248 z249 z250 z251 z252 z253 z254 z255 z256 z257 z258 z259 z260 z261 z262 z263 z264 z265 z266 z267 z268 z269 z270 z271 z272 z273 z274 z275 z276 z277 z278 z279 z280 z281 z282 z283 z284 z285 z286 z287 z288 z289 z290 z291 z292 z293 z294 z295 z296 z297 z298
   z299 z300 z301 z302 z303 z304 z305 z306 z307 z308 z309 z310 z311 z312 z313 z314 z315 z316 z317 z318 z319 z320 z321 z322 z323 z324 z325:Value,PlMore w bk j bc x c z7 z9 z12 z13 w'∧a'=⟨#[u0,u1,.slice la L.length lc,u3,.pointer (some ⟨bc,0,none⟩),u5,z6,z7,u8,z9,z10,u11,z12,z13,.pointer (some ⟨bk,0,none⟩),.int .i64 (j:Int),z16,z17,z18,z19,z20,z21,z22,z23,z24,z25,z26,z27,z28,z29,z30,z31,z32,z33,z34,z35,z36,z37,z38,u39,u40,u41,u42,u43,u44,u45,u46,u47,u48,u49,u50,u51,u52,u53,u54,u55,u56,u57,u58,u59,
   u60,u61,u62,u63,u64,u65,u66,u67,u68,u69,u70,u71,u72,u73,u74,u75,u76,u77,u78,u79,u80,u81,u82,u83,u84,u85,u86,u87,z88,z89,z90,z91,z92,z93,z94,z95,z96,z97,z98,z99,z100,z101,z102,z103,z104,z105,z106,z107,z108,z109,z110,z111,z112,z113,z114,z115,z116,z117,z118,z119,
   z120,z121,z122,z123,z124,z125,z126,z127,z128,z129,z130,z131,z132,z133,z134,z135,z136,z137,z138,z139,z140,z141,z142,z143,z144,z145,z146,z147,z148,z149,z150,z151,z152,z153,z154,z155,z156,z157,z158,z159,z160,z161,z162,z163,z164,z165,z166,z167,z168,z169,z170,z171,z172,z173,z174,z175,z176,z177,z178,z179,
   z180,z181,z182,z183,z184,z185,z186,z187,z188,z189,z190,z191,z192,z193,z194,z195,z196,z197,z198,z199,z200,z201,z202,z203,z204,z205,z206,z207,z208,z209,z210,z211,z212,z213,z214,z215,z216,z217,z218,z219,z220,z221,z222,z223,z224,z225,z226,z227,z228,z229,z230,z231,z232,z233,z234,z235,z236,z237,z238,z239,
   z240,z241,z242,z243,z244,z245,z246,z247,z248,z249,z250,z251,z252,z253,z254,z255,z256,z257,z258,z259,z260,z261,z262,z263,z264,z265,z266,z267,z268,z269,z270,z271,z272,z273,z274,z275,z276,z277,z278,z279,z280,z281,z282,z283,z284,z285,z286,z287,z288,z289,z290,z291,z292,z293,z294,z295,z296,z297,z298,z299,
   z300,z301,z302,z303,z304,z305,z306,z307,z308,z309,z310,z311,z312,z313,z314,z315,z316,z317,z318,z319,z320,z321,z322,z323,z324,z325,u326,u327,u328,u329],[]⟩)→J a' w')
   (hM:∀ (a':Act) (w':World),Met J a' w'→K a' w') :
   Code.wp Tryz.prog roundCode (Exit.then K (bodyPost Tryz.prog Tryz.f3 (fun _ _=>False))) ⟨#[u0,u1,.slice la L.length lc,u3,.pointer (some ⟨bc,0,none⟩),u5,u6,.pointer (some ⟨bd,0,none⟩),u8,.pointer (some ⟨rd,0,none⟩),u10,u11,u12,u13,.pointer (some ⟨bk,0,none⟩),.int .i64 (j:Int),u16,u17,u18,u19,u20,u21,u22,u23,u24,u25,u26,u27,u28,u29,u30,u31,u32,u33,u34,u35,u36,u37,u38,u39,u40,u41,u42,u43,u44,u45,u46,u47,u48,u49,u50,u51,u52,u53,u54,u55,u56,u57,u58,u59,
   u60,u61,u62,u63,u64,u65,u66,u67,u68,u69,u70,u71,u72,u73,u74,u75,u76,u77,u78,u79,u80,u81,u82,u83,u84,u85,u86,u87,u88,u89,u90,u91,u92,u93,u94,u95,u96,u97,u98,u99,u100,u101,u102,u103,u104,u105,u106,u107,u108,u109,u110,u111,u112,u113,u114,u115,u116,u117,u118,u119,
   u120,u121,u122,u123,u124,u125,u126,u127,u128,u129,u130,u131,u132,u133,u134,u135,u136,u137,u138,u139,u140,u141,u142,u143,u144,u145,u146,u147,u148,u149,u150,u151,u152,u153,u154,u155,u156,u157,u158,u159,u160,u161,u162,u163,u164,u165,u166,u167,u168,u169,u170,u171,u172,u173,u174,u175,u176,u177,u178,u179,
   u180,u181,u182,u183,u184,u185,u186,u187,u188,u189,u190,u191,u192,u193,u194,u195,u196,u197,u198,u199,u200,u201,u202,u203,u204,u205,u206,u207,u208,u209,u210,u211,u212,u213,u214,u215,u216,u217,u218,u219,u220,u221,u222,u223,u224,u225,u226,u227,u228,u229,u230,u231,u232,u233,u234,u235,u236,u237,u238,u239,
   u240,u241,u242,u243,u244,u245,u246,u247,u248,u249,u250,u251,u252,u253,u254,u255,u256,u257,u258,u259,u260,u261,u262,u263,u264,u265,u266,u267,u268,u269,u270,u271,u272,u273,u274,u275,u276,u277,u278,u279,u280,u281,u282,u283,u284,u285,u286,u287,u288,u289,u290,u291,u292,u293,u294,u295,u296,u297,u298,u299,
   u300,u301,u302,u303,u304,u305,u306,u307,u308,u309,u310,u311,u312,u313,u314,u315,u316,u317,u318,u319,u320,u321,u322,u323,u324,u325,u326,u327,u328,u329],[]⟩ wr:=by
 conv=>arg 2;whnf
 have hjL:j<L.length:=by rw [← HM.out];exact hlt
 obtain ⟨_,_,_,h4 | ⟨b,off,rfl,hblt,hcell⟩⟩:=HL.out
 · rw [h4] at hjL;simp at hjL
 obtain ⟨yy,hyy⟩:∃ yy,yy=L[j]:=⟨_,rfl⟩
 have hmem:yy ∈ L:=by rw [hyy];exact List.getElem_mem hjL
 have RA:Hid (wr.rangeAt b (off+j*10) yy.cells):=Lib.hid (range_low (w:=w) (by rw [hyy];exact fun i v hv=>hcell j hjL i v hv) HS.out.1.q.below hblt)
 have HOK:=Lib.hid (HA.out yy hmem)
 obtain ⟨hl1,hl2,hl3⟩:=HLEN.out yy hmem
 have HO1:Hid (yy.on=yy.o.length):=Lib.hid HOK.out.o.1.1
 have ho2:yy.o.length≤250:=by have:=HO1.out;omega
 clear hcell hyy hmem
 have hbx:Below wr.heap.size wr (wr.alloc (.cells yy.cells.toArray 63)):=(Below.refl _ _).alloc (Nat.le_refl _) _
 have HX1:Hid (BxAc (wr.alloc (.cells yy.cells.toArray 63)) wr.heap.size yy):=Lib.hid (heap_new wr _)
 have HS1:=Lib.hid (HS.out.1.after hbx)
 have HF1:=Lib.hid HS.out.2
 have HONE:=Lib.hid (AcV.one yy)
 clear hbx HS
 obtain ⟨f10,hf10⟩:∃ f10:Nat,f10=yy.k % 10:=⟨_,rfl⟩
 have hf11:f10<10:=by omega
 have m1:(yy.k:Int) % 10=(f10:Int):=by omega
 have m2:((yy.k:Int)).tmod 10=(f10:Int):=by rw [Int.tmod_eq_emod_of_nonneg (by omega)];omega
 have m3:IntKind.u8.wrap (f10:Int)=(f10:Int):=by rw [IntKind.wrap_u8'];omega
 clear hf10
 go_upto_block 2 with (first
   | (refine wpList_load_mid rfl 63 (.tmp 96) rfl b (off+j*10) rfl yy.cells _ RA.out Tryz.underlying63 rfl infoAct10 ?_)
   | (refine wpList_declare rfl rfl 63 rfl (.tmp 16) (.tmp 97) rfl _ zeroAct10 yy.cells.toArray rfl (by rw [infoAct10];rfl) rfl rfl (by simpa using HONE.out) ?_
      generalize wr.alloc (.cells yy.cells.toArray 63)=w1 at HX1 HS1 ⊢
      obtain ⟨hx,hhx⟩:∃ hx,hx=wr.heap.size:=⟨_,rfl⟩
      rw [← hhx] at HX1 ⊢
      clear hhx
      obtain ⟨v0,v1,v2,v3,v4,v5,v6,v7,v8,v9⟩:=HX1.out.cells)
   | fail)
 clear RA HONE hjL
 have hj1:j+1≤M:=hlt
 have hjj:j≤62:=by omega
 go_cut [7,9,12,13] (fun d m s t wx=>PlCut w bk (1004+30*j) bc hx (10*((j:Int)+2)) x c yy d m s t wx)
 case first =>
   rename_i J K hJ hM
   refine wp_mono (play_arms x c w w1 bc bk hx bd bl rd rl rc j M f10 D R yy _ _ _ _ _ _ _ _ _ _ _ _ _ _ _ _ _ _ _ _ _ _ _ _ _ _ _ _ _ _ _ _ _ _ _ _ _ _ _ _ _ _ _ _ _ _ _ _ _ _ _ _ _ _ _ _ _ _ _ _ _ _ _ _ _ _ _ _ _ _ _ _ _ _ _ _ _ _ _ _ _ _ _ _ _ _ _ _ _ _ _ _ _ _ _ _ _ _ _ _ _ _ _ _ _ _ _ _ _ _ _ _ _ _ _ _ _ _ _ _ _ _ _ _ _ _ _ _ _ _ _ _ _ _ _ _ _ _ _ _ _ _ _ _ _ _ _ _ _ _ _ _ _ _ _ _ _ _ _ _ _ _ _ _ _ _ _ _ _ _ _ _ _ _ _ _ _ _ _ _ _ _ _ _ _ _ _ _ _ _ _ _ _ _ _ _ _ _ _ _ _ _ _ _ _ _ _ _ _ _ _ _ _ _ _ _ _ _ _ _ _ _ _ _ _ _ _ _ _ _ _ _ _ _ _ _ _ _ _ _ _ _ _ _ _ _ _ _ _ _ _ _ _ _ _ _ _ _ _ _ _ _ _ _ _ _ _ _ _ _ _ _ _ _ _ _ _ _ _ _ _ _ _ _ _ _ _ _ _ _ _ _ _ _ _ _ _ _ _ _ _ _ _ _ _ _ _ _ _ _ _ _ _ _ _ _ _ _ _ _ _ _ _ _ HC hct hcs hj1 hjj hl1 hl2 hl3 HOK HO1 ho2 HF1 hf11 m1 m2 m3 HS1 HX1 J K hJ hM) ?_
   intro e a1 w2 hq
   cases e <;> first | exact hq | exact False.elim hq | exact False.elim hq.2 | (obtain ⟨_,_,_,hf⟩:=hq;exact False.elim hf)
 case rest =>
  as_aux_lemma =>
   obtain ⟨bd,bl,rd,rl,rc,D,R,rfl,rfl,hS,hF,hX⟩:=hcut
   obtain ⟨w0,rfl⟩:∃ w0:World,w0=wc:=⟨_,rfl⟩
   have HS0:=Lib.hid hS
   have HF0:=Lib.hid hF
   have HX0:=Lib.hid hX
   clear hF hX v0 v1 v2 v3 v4 v5 v6 v7 v8 v9 HS1 HX1 HF1
   rcases hS.p with ⟨rfl,rfl⟩ | ⟨bs,ts,xs,ys,cs,rfl,rfl,hst⟩
   · as_aux_lemma =>
       clear hS
       go_wp2_with fail
       go_meet
       exact ⟨bd,bl,rd,rl,rc,D,R,rfl,rfl,HS0.out.more (by omega),HF0.out.mono (by omega)⟩
   · as_aux_lemma =>
       have hmay:=(mayB_iff cs).1 hst.may
       have HMAY:=Lib.hid hmay
       have hs8:=hmay.s.2
       have hr8:=hmay.r.2.1
       have HST0:=Lib.hid hst
       have HSAME:=Lib.hid hS.q.same
       have hrlt:=hS.q.ref.lt
       have hW0:=hS.q.below.size
       have HK0:Hid (BkP w0 w.heap.size bk (QL w0.heap.size rd rl) (1004+30*j)):=Lib.hid hS.q.book
       clear hst hS hmay
       go_wp2_with fail
       refine (config_pub bs bd bl xs cs D w0 HST0.out.ps HMAY.out).mono ?_;rintro e w1 ⟨y1,rfl,hb1,hcf1,hco1⟩;try dsimp only
       have HT1:=Lib.hid (TlC.of (B:=w.heap.size) hco1 hW0 HMAY.out (Nat.le_refl _))
       have hw1:=hb1.size
       have hal:Below w1.heap.size w1 (w1.alloc (.cells (y1.cells cs.t).toArray 27)):=(Below.refl _ _).alloc (Nat.le_refl _) _
       have HBXb25:Hid (BxCf (w1.alloc (.cells (y1.cells cs.t).toArray 27)) w1.heap.size y1 cs):=Lib.hid (heap_new w1 _)
       have HL2:=Lib.hid (hb1.trans (hal.mono hb1.size))
       have HT2:=Lib.hid (HT1.out.below hal)
       have HCF2:=Lib.hid (hcf1.below hal)
       have HON1:=Lib.hid (StA.one y1 cs.t)
       have hw2:=hal.size
       clear hb1 hcf1 hco1 hal HT1
       go_wp2_with (first
         | (refine wpList_declare rfl rfl 27 rfl (.tmp 25) (.tmp 233) rfl _ zeroCfg5 (y1.cells cs.t).toArray rfl (by rw [infoCfg5];rfl) rfl rfl (by simpa using HON1.out) ?_
            generalize w1.alloc (.cells (y1.cells cs.t).toArray 27)=w2 at HBXb25 HL2 HT2 HCF2 hw2 ⊢
            obtain ⟨b25,hb25⟩:∃ b25,b25=w1.heap.size:=⟨_,rfl⟩
            rw [← hb25] at HBXb25 ⊢
            clear hb25
            obtain ⟨-,v1,-⟩:=(HX0.out.below HL2.out).cells)
         | fail)
       refine (rec_all bs bd bl xs cs D yy.who w2 (HST0.out.after HL2.out).ps (by omega) (by omega)).mono ?_;rintro e w3 ⟨ra,rfl,hb3,hn3⟩;try dsimp only
       have hrlen:=recK_len HMAY.out D yy.who
       obtain ⟨X,hX⟩:∃ X,X=recK cs D yy.who:=⟨_,rfl⟩
       rw [← hX] at hn3 hrlen ⊢
       have HRE:=Lib.hid hX
       clear hX
       obtain ⟨⟨rq,rt,rb⟩,re⟩:=X
       dsimp only at hn3 hrlen ⊢
       have HI3:=Lib.hid hn3.isIp.1
       have HR3:=Lib.hid (TlI.of (B:=w.heap.size) hn3 (Nat.le_trans hW0 (Nat.le_trans hw1 hw2)) hrlen (Nat.le_refl _))
       have hw3:=hb3.size
       have hal:Below w3.heap.size w3 (w3.alloc (.cells #[.int .u32 rq,.bool rt,.slice ra rb.length rb.length] 60)):=(Below.refl _ _).alloc (Nat.le_refl _) _
       have hbx:=hb3.trans (hal.mono hb3.size)
       have HBXb27:Hid (BxRc (w3.alloc (.cells #[.int .u32 rq,.bool rt,.slice ra rb.length rb.length] 60)) w3.heap.size rq rt ra rb.length rb.length):=Lib.hid (heap_new w3 _)
       have HL4:=Lib.hid (HL2.out.trans (hbx.mono HL2.out.size))
       have HT4:=Lib.hid (HT2.out.below hbx)
       have HCF4:=Lib.hid (HCF2.out.below hbx)
       have HV4:=Lib.hid (HBXb25.out.below hbx)
       have HI4:=Lib.hid (HI3.out.below hal)
       have HR4:=Lib.hid (HR3.out.below hal)
       have HON2:=Lib.hid (rec_oneP rq rt ra rb.length rb.length)
       have hw4:=hal.size
       clear hb3 hn3 hal hbx HI3 HR3 HL2 HT2 HCF2 HBXb25 HON1 v1
       go_wp2_with (first
         | (refine wpList_declare rfl rfl 60 rfl (.tmp 27) (.tmp 240) rfl _ zeroRec3 #[.int .u32 rq,.bool rt,.slice ra rb.length rb.length] rfl (by rw [infoRec3];rfl) rfl rfl (by simpa using HON2.out) ?_
            generalize w3.alloc (.cells #[.int .u32 rq,.bool rt,.slice ra rb.length rb.length] 60)=w4 at HBXb27 HL4 HT4 HCF4 HV4 HI4 HR4 hw4 ⊢
            obtain ⟨b27,hb27⟩:∃ b27,b27=w3.heap.size:=⟨_,rfl⟩
            rw [← hb27] at HBXb27 ⊢
            clear hb27
            obtain ⟨-,v1,-⟩:=(HX0.out.below HL4.out).cells)
         | fail)
       as_aux_lemma =>
        refine (rrec_all ts w.heap.size rd rl rc ys cs R yy.who w4 (HST0.out.after HL4.out).rs (by omega) (by omega)).mono ?_;rintro e w5 ⟨qa,qm,qc,rfl,hb5,hi5⟩;try dsimp only
        rw [HSAME.out.rec cs yy.who,← HRE.out] at hi5 ⊢
        dsimp only at hi5 ⊢
        have hal:Below w5.heap.size w5 (w5.alloc (.cells #[.int .u32 rq,.bool rt,.slice qa qm qc] 60)):=(Below.refl _ _).alloc (Nat.le_refl _) _
        have hbx:=hb5.trans (hal.mono hb5.size)
        have HBXb29:Hid (BxRc (w5.alloc (.cells #[.int .u32 rq,.bool rt,.slice qa qm qc] 60)) w5.heap.size rq rt qa qm qc):=Lib.hid (heap_new w5 _)
        have HL6:=Lib.hid (HL4.out.trans (hbx.mono HL4.out.size))
        have HT6:=Lib.hid (HT4.out.below hbx)
        have HCF6:=Lib.hid (HCF4.out.below hbx)
        have HV6:=Lib.hid (HV4.out.below hbx)
        have HU6:=Lib.hid (HBXb27.out.below hbx)
        have HI6:=Lib.hid (HI4.out.below hbx)
        have HR6:=Lib.hid (HR4.out.below hbx)
        have HJ6:=Lib.hid (hi5.below hal)
        have HON3:=Lib.hid (rec_oneP rq rt qa qm qc)
        have hw6:w4.heap.size≤(w5.alloc (.cells #[.int .u32 rq,.bool rt,.slice qa qm qc] 60)).heap.size:=hbx.size
        clear hb5 hi5 hal hbx HL4 HT4 HCF4 HV4 HBXb27 HI4 HR4 HON2 v1
        go_wp2_with (first
          | (refine wpList_declare rfl rfl 60 rfl (.tmp 29) (.tmp 247) rfl _ zeroRec3 #[.int .u32 rq,.bool rt,.slice qa qm qc] rfl (by rw [infoRec3];rfl) rfl rfl (by simpa using HON3.out) ?_
             generalize w5.alloc (.cells #[.int .u32 rq,.bool rt,.slice qa qm qc] 60)=w6 at HBXb29 HL6 HT6 HCF6 HV6 HU6 HI6 HR6 HJ6 hw6 ⊢
             obtain ⟨b29,hb29⟩:∃ b29,b29=w5.heap.size:=⟨_,rfl⟩
             rw [← hb29] at HBXb29 ⊢
             clear hb29)
          | fail)
        refine (order_pub bs bd bl xs cs D w6 (HST0.out.after HL6.out).ps).mono ?_;rintro e w7 ⟨oa,rfl,hb7,hn7⟩;try dsimp only
        have holen:=ordL_len cs.s.length D hs8
        obtain ⟨ol,hol⟩:∃ ol,ol=ordL cs.s.length D:=⟨_,rfl⟩
        obtain ⟨oe,hoe⟩:∃ oe,oe=ordE cs.s.length D:=⟨_,rfl⟩
        rw [← hol] at hn7 holen
        rw [← hol,← hoe]
        have HOL:=Lib.hid hol
        have HOE:=Lib.hid hoe
        have HL7:=Lib.hid (HL6.out.trans (hb7.mono HL6.out.size))
        have HT7:=Lib.hid (HT6.out.below hb7)
        have HCF7:=Lib.hid (HCF6.out.below hb7)
        have HV7:=Lib.hid (HV6.out.below hb7)
        have HU7:=Lib.hid (HU6.out.below hb7)
        have HS7:=Lib.hid (HBXb29.out.below hb7)
        have HI7:=Lib.hid (HI6.out.below hb7)
        have HR7:=Lib.hid (HR6.out.below hb7)
        have HJ7:=Lib.hid (HJ6.out.below hb7)
        have HO7:=Lib.hid hn7.isIp.1
        have HQ7:=Lib.hid (TlI.of (B:=w.heap.size) hn7 (by omega) holen (Nat.le_refl _))
        have hw7:=hb7.size
        clear hb7 hn7 hol hoe HL6 HT6 HCF6 HV6 HU6 HBXb29 HI6 HR6 HJ6 HON3
        go_wp2_with fail
        as_aux_lemma =>
         refine (rorder_pub ts w.heap.size rd rl rc ys cs R w7 (HST0.out.after HL7.out).rs (by omega)).mono ?_;rintro e w8 ⟨pa,pm,pc,rfl,hb8,hi8⟩;try dsimp only
         rw [HSAME.out.oL,← HOL.out] at hi8
         rw [HSAME.out.oE,← HOE.out]
         have HL8:=Lib.hid (HL7.out.trans (hb8.mono HL7.out.size))
         have HT8:=Lib.hid (HT7.out.below hb8)
         have HCF8:=Lib.hid (HCF7.out.below hb8)
         have HV8:=Lib.hid (HV7.out.below hb8)
         have HU8:=Lib.hid (HU7.out.below hb8)
         have HS8:=Lib.hid (HS7.out.below hb8)
         have HI8:=Lib.hid (HI7.out.below hb8)
         have HR8:=Lib.hid (HR7.out.below hb8)
         have HJ8:=Lib.hid (HJ7.out.below hb8)
         have HO8:=Lib.hid (HO7.out.below hb8)
         have HQ8:=Lib.hid (HQ7.out.below hb8)
         have HP8:=Lib.hid hi8
         have hw8:=hb8.size
         clear hb8 hi8 HL7 HT7 HCF7 HV7 HU7 HS7 HI7 HR7 HJ7 HO7 HQ7
         go_wp2_with fail
         refine (market_pub bs bd bl xs cs D w8 (HST0.out.after HL8.out).ps (by omega) (by omega)).mono ?_;rintro e w9 ⟨hq9,hb9⟩;try dsimp only
         obtain ⟨mx,rfl,him,hmo⟩:=hq9.is
         rw [mktR_may HMAY.out] at him hmo ⊢
         dsimp only at him hmo ⊢
         rw [← HOE.out]
         obtain ⟨ml1,ml2,ml3,ml4⟩:=mkN_len HMAY.out D
         have hml3:=Lib.hid ml3
         obtain ⟨MM,hMM⟩:∃ MM,MM=mkN cs D:=⟨_,rfl⟩
         rw [← hMM] at him hmo ml1 ml2 ml4 hml3
         have HMM:=Lib.hid hMM
         have HM9:=Lib.hid (TlM.of (B:=w.heap.size) hmo (by omega) ml1 ml2 hml3.out ml4 (Nat.le_refl _))
         have hw9:=hb9.size
         have hal:Below w9.heap.size w9 (w9.alloc (.cells mx.cells.toArray 84)):=(Below.refl _ _).alloc (Nat.le_refl _) _
         have hbx:=hb9.trans (hal.mono hb9.size)
         have HBXb35:Hid (BxMk (w9.alloc (.cells mx.cells.toArray 84)) w9.heap.size mx):=Lib.hid (heap_new w9 _)
         have HL10:=Lib.hid (HL8.out.trans (hbx.mono HL8.out.size))
         have HT10:=Lib.hid (HT8.out.below hbx)
         have HCF10:=Lib.hid (HCF8.out.below hbx)
         have HV10:=Lib.hid (HV8.out.below hbx)
         have HU10:=Lib.hid (HU8.out.below hbx)
         have HS10:=Lib.hid (HS8.out.below hbx)
         have HI10:=Lib.hid (HI8.out.below hbx)
         have HR10:=Lib.hid (HR8.out.below hbx)
         have HJ10:=Lib.hid (HJ8.out.below hbx)
         have HO10:=Lib.hid (HO8.out.below hbx)
         have HQ10:=Lib.hid (HQ8.out.below hbx)
         have HP10:=Lib.hid (HP8.out.below hbx)
         have HN10:=Lib.hid (him.below hal)
         have HM10:=Lib.hid (HM9.out.below hal)
         have HON4:=Lib.hid mx.one
         have hw10:=hal.size
         clear hq9 hb9 him hmo ml3 hMM hal hbx HM9 HL8 HT8 HCF8 HV8 HU8 HS8 HI8 HR8 HJ8 HO8 HQ8 HP8 hml3
         go_wp2_with (first
           | (refine wpList_declare rfl rfl 84 rfl (.tmp 35) (.tmp 262) rfl _ zeroMkt3 mx.cells.toArray rfl (by rw [infoMkt3];rfl) rfl rfl (by simpa using HON4.out) ?_
              generalize w9.alloc (.cells mx.cells.toArray 84)=w10 at HBXb35 HL10 HT10 HCF10 HV10 HU10 HS10 HI10 HR10 HJ10 HO10 HQ10 HP10 HN10 HM10 hw10 ⊢
              obtain ⟨b35,hb35⟩:∃ b35,b35=w9.heap.size:=⟨_,rfl⟩
              rw [← hb35] at HBXb35 ⊢
              clear hb35)
           | fail)
         as_aux_lemma =>
          refine (rmarket_any ts w.heap.size rd rl rc ys cs R w10 (HST0.out.after HL10.out).rs (by omega) (by omega)).mono ?_;rintro e w11 ⟨px,rfl,hb11,hip⟩;try dsimp only
          have hmm2:(if ordE cs.s.length R=0 then mktC cs R else ⟨[],[],[]⟩)=MM:=by rw [HMM.out,HSAME.out.oE,HSAME.out.mkt];rfl
          rw [hmm2] at hip
          rw [HSAME.out.oE,← HOE.out]
          have hal:Below w11.heap.size w11 (w11.alloc (.cells px.cells.toArray 84)):=(Below.refl _ _).alloc (Nat.le_refl _) _
          have hbx:=hb11.trans (hal.mono hb11.size)
          have HBXb37:Hid (BxMk (w11.alloc (.cells px.cells.toArray 84)) w11.heap.size px):=Lib.hid (heap_new w11 _)
          have HL12:=Lib.hid (HL10.out.trans (hbx.mono HL10.out.size))
          have HT12:=Lib.hid (HT10.out.below hbx)
          have HCF12:=Lib.hid (HCF10.out.below hbx)
          have HI27:=Lib.hid (HI10.out.below hbx)
          have HR12:=Lib.hid (HR10.out.below hbx)
          have HI29:=Lib.hid (HJ10.out.below hbx)
          have HI31:=Lib.hid (HO10.out.below hbx)
          have HQ12:=Lib.hid (HQ10.out.below hbx)
          have HI33:=Lib.hid (HP10.out.below hbx)
          have HI35:=Lib.hid (HN10.out.below hbx)
          have HM12:=Lib.hid (HM10.out.below hbx)
          have HI37:=Lib.hid (hip.below hal)
          have HON5:=Lib.hid px.one
          have H5':=Lib.hid (And.intro (HV10.out.below hbx) (And.intro (HU10.out.below hbx) (And.intro (HS10.out.below hbx) (HBXb35.out.below hbx))))
          have hw12:w10.heap.size≤(w11.alloc (.cells px.cells.toArray 84)).heap.size:=hbx.size
          clear hb11 hip hal hbx hmm2 HL10 HT10 HCF10 HV10 HU10 HS10 HI10 HR10 HJ10 HO10 HQ10 HP10 HN10 HM10 HBXb35 HON4
          go_upto_region 58 with (first
            | (refine wpList_declare rfl rfl 84 rfl (.tmp 37) (.tmp 267) rfl _ zeroMkt3 px.cells.toArray rfl (by rw [infoMkt3];rfl) rfl rfl (by simpa using HON5.out) ?_
               generalize w11.alloc (.cells px.cells.toArray 84)=w12 at HBXb37 HL12 HT12 HCF12 HI27 HR12 HI29 HI31 HQ12 HI33 HI35 HM12 HI37 H5' hw12 ⊢
               obtain ⟨b37,hb37⟩:∃ b37,b37=w11.heap.size:=⟨_,rfl⟩
               rw [← hb37] at HBXb37 ⊢
               clear hb37)
            | fail)
          clear HON5
          have H512:Hid (Bx5 w12 b25 y1 cs b27 b29 rq rt ra rb.length qa qm qc b35 mx b37 px):=Lib.hid ⟨H5'.out.1,H5'.out.2.1,H5'.out.2.2.1,H5'.out.2.2.2,HBXb37.out⟩
          clear H5' HBXb37
          go_cut [317] (fun v wx=>v=.bool false∧Below w12.heap.size w12 wx)
          case first =>
            as_aux_lemma =>
             have hmay:=HMAY.out
             obtain ⟨ph,hph⟩:∃ ph,ph=(phD cs.s.length D).1:=⟨_,rfl⟩
             have HPH:=Lib.hid hph
             have HST12:=Lib.hid (HST0.out.after HL12.out)
             have HV0:=Lib.hid ((Below.refl w12.heap.size w12).drew)
             have z1:(re == re)=true:=by simp
             have z2:(re != re)=false:=by simp
             have z3:(oe == oe)=true:=by simp
             have z4:(oe != oe)=false:=by simp
             have z5:(((ph:Nat):Int) == ((ph:Nat):Int))=true:=by simp
             have z6:(((ph:Nat):Int) != ((ph:Nat):Int))=false:=by simp
             clear hph HK0 HX0 HT12 HR12 HQ12 HM12 HOL HOE HRE HMM
             refine wp_region_held_drew (S:=(fun w':World=>Bx5 w' b25 y1 cs b27 b29 rq rt ra rb.length qa qm qc b35 mx b37 px)) (by kernel_rfl) (H512.out.below HV0.out) (fun hS0 => ?_)
             refine tk 0 (.int .i64 0) rfl (fun w' hSw => ?_) hS0 ?_
             · go_simp
             refine tk 1 (.bool false) rfl (fun w' hSw => ?_) hS0 ?_
             · go_simp
             refine tk 2 (.bool false) rfl (fun w' hSw => ?_) hS0 ?_
             · go_simp
             try simp only [List.getElem_toArray,List.getElem_cons_zero,List.getElem_cons_succ,Act.put,List.setIfInBounds_toArray,List.set_cons_zero,List.set_cons_succ]
             refine tk 3 (.agg (y1.cells cs.t).toArray) rfl (fun w' hSw => ?_) hS0 ?_
             · obtain ⟨c0,c1,c2,c3,c4⟩:=(Bx5.c hSw).cells
               obtain ⟨r0,r1,r2⟩:=(Bx5.r hSw).cells
               obtain ⟨q0,q1,q2⟩:=(Bx5.q hSw).cells
               obtain ⟨k0,k1,k2⟩:=(Bx5.m hSw).cells
               obtain ⟨p0,p1,p2⟩:=(Bx5.p hSw).cells
               go_simp
               try rfl
             refine tk 4 (.pointer (some ⟨ts,0,none⟩)) rfl (fun w' hSw => ?_) hS0 ?_
             · go_simp
             try simp only [List.getElem_toArray,List.getElem_cons_zero,List.getElem_cons_succ,Act.put,List.setIfInBounds_toArray,List.set_cons_zero,List.set_cons_succ]
             refine wpAnyH_ready (rs:=[5]) (by kernel_rfl) (by simp) ?_
             refine AllReadyH.cons rfl (fun K hK => ?_) AllReadyH.nil
             go_simp
             refine (rconfig_any ts w.heap.size rd rl rc ys cs R w12.drew (HST12.out.after HV0.out).rs hmay).mono ?_;rintro e u1 ⟨y2,rfl,hb1,hcf2⟩;try dsimp only
             have HV1:=Lib.hid (HV0.out.trans (hb1.mono HV0.out.size))
             have HY2:=Lib.hid hcf2
             clear hb1 hcf2
             refine hK.out _ _ (H512.out.below HV1.out) (fun hS1 => ?_)
             clear hK K
             as_aux_lemma =>
              try simp only [List.getElem_toArray,List.getElem_cons_zero,List.getElem_cons_succ,Act.put,List.setIfInBounds_toArray,List.set_cons_zero,List.set_cons_succ]
              refine wpAnyH_ready (rs:=[6]) (by kernel_rfl) (by simp) ?_
              refine AllReadyH.cons rfl (fun K hK => ?_) AllReadyH.nil
              go_simp
              refine (sameC_any _ _ y1 y2 cs u1 (HCF12.out.below HV1.out) HY2.out).mono ?_;rintro e u2 ⟨rfl,hb2⟩;try dsimp only
              have HV2:=Lib.hid (HV1.out.trans (hb2.mono HV1.out.size))
              clear hb2 HY2
              refine hK.out _ _ (H512.out.below HV2.out) (fun hS2 => ?_)
              clear hK K
              try simp only [List.getElem_toArray,List.getElem_cons_zero,List.getElem_cons_succ,Act.put,List.setIfInBounds_toArray,List.set_cons_zero,List.set_cons_succ]
              refine tk 7 (.bool false) rfl (fun w' hSw => ?_) hS2 ?_
              · go_simp
              refine tk 8 (.bool false) rfl (fun w' hSw => ?_) hS2 ?_
              · go_simp
              refine tk 9 (.bool false) rfl (fun w' hSw => ?_) hS2 ?_
              · go_simp
              try simp only [List.getElem_toArray,List.getElem_cons_zero,List.getElem_cons_succ,Act.put,List.setIfInBounds_toArray,List.set_cons_zero,List.set_cons_succ]
              refine tk 10 (.pointer (some ⟨bs,0,none⟩)) rfl (fun w' hSw => ?_) hS2 ?_
              · go_simp
              refine tk 12 (.pointer (some ⟨ts,0,none⟩)) rfl (fun w' hSw => ?_) hS2 ?_
              · go_simp
              as_aux_lemma =>
               try simp only [List.getElem_toArray,List.getElem_cons_zero,List.getElem_cons_succ,Act.put,List.setIfInBounds_toArray,List.set_cons_zero,List.set_cons_succ]
               refine wpAnyH_ready (rs:=[11]) (by kernel_rfl) (by simp) ?_
               refine AllReadyH.cons rfl (fun K hK => ?_) AllReadyH.nil
               go_simp
               refine (phase_pub bs bd bl xs cs D u2 (HST12.out.after HV2.out).ps).mono ?_;rintro e u3 ⟨rfl,hb3⟩;try dsimp only
               rw [← HPH.out]
               have HV3:=Lib.hid (HV2.out.trans (hb3.mono HV2.out.size))
               clear hb3
               refine hK.out _ _ (H512.out.below HV3.out) (fun hS3 => ?_)
               clear hK K
               try simp only [List.getElem_toArray,List.getElem_cons_zero,List.getElem_cons_succ,Act.put,List.setIfInBounds_toArray,List.set_cons_zero,List.set_cons_succ]
               refine wpAnyH_ready (rs:=[13]) (by kernel_rfl) (by simp) ?_
               refine AllReadyH.cons rfl (fun K hK => ?_) AllReadyH.nil
               go_simp
               refine (rphase_pub ts w.heap.size rd rl rc ys cs R u3 (HST12.out.after HV3.out).rs (by omega)).mono ?_;rintro e u4 ⟨rfl,hb4⟩;try dsimp only
               rw [HSAME.out.ph,← HPH.out]
               have HV4:=Lib.hid (HV3.out.trans (hb4.mono HV3.out.size))
               clear hb4
               refine hK.out _ _ (H512.out.below HV4.out) (fun hS4 => ?_)
               clear hK K
               try simp only [List.getElem_toArray,List.getElem_cons_zero,List.getElem_cons_succ,Act.put,List.setIfInBounds_toArray,List.set_cons_zero,List.set_cons_succ]
               refine tk 14 (.bool false) rfl (fun w' hSw => ?_) hS4 ?_
               · go_simp
               refine tk 15 (.bool false) rfl (fun w' hSw => ?_) hS4 ?_
               · go_simp
               refine tk 16 (.bool false) rfl (fun w' hSw => ?_) hS4 ?_
               · go_simp
               as_aux_lemma =>
                try simp only [List.getElem_toArray,List.getElem_cons_zero,List.getElem_cons_succ,Act.put,List.setIfInBounds_toArray,List.set_cons_zero,List.set_cons_succ]
                refine tk 17 (.int .i64 re) rfl (fun w' hSw => ?_) hS4 ?_
                · go_simp
                refine tk 18 (.int .i64 re) rfl (fun w' hSw => ?_) hS4 ?_
                · go_simp
                refine tk 19 (.bool false) rfl (fun w' hSw => ?_) hS4 ?_
                · go_simp
                try simp only [List.getElem_toArray,List.getElem_cons_zero,List.getElem_cons_succ,Act.put,List.setIfInBounds_toArray,List.set_cons_zero,List.set_cons_succ]
                refine tk 20 (.bool false) rfl (fun w' hSw => ?_) hS4 ?_
                · go_simp
                refine tk 21 (.bool false) rfl (fun w' hSw => ?_) hS4 ?_
                · go_simp
                refine tk 22 (.agg #[.int .u32 rq,.bool rt,.slice ra rb.length rb.length]) rfl (fun w' hSw => ?_) hS4 ?_
                · obtain ⟨c0,c1,c2,c3,c4⟩:=(Bx5.c hSw).cells
                  obtain ⟨r0,r1,r2⟩:=(Bx5.r hSw).cells
                  obtain ⟨q0,q1,q2⟩:=(Bx5.q hSw).cells
                  obtain ⟨k0,k1,k2⟩:=(Bx5.m hSw).cells
                  obtain ⟨p0,p1,p2⟩:=(Bx5.p hSw).cells
                  go_simp
                  try rfl
                try simp only [List.getElem_toArray,List.getElem_cons_zero,List.getElem_cons_succ,Act.put,List.setIfInBounds_toArray,List.set_cons_zero,List.set_cons_succ]
                refine tk 23 (.agg #[.int .u32 rq,.bool rt,.slice qa qm qc]) rfl (fun w' hSw => ?_) hS4 ?_
                · obtain ⟨c0,c1,c2,c3,c4⟩:=(Bx5.c hSw).cells
                  obtain ⟨r0,r1,r2⟩:=(Bx5.r hSw).cells
                  obtain ⟨q0,q1,q2⟩:=(Bx5.q hSw).cells
                  obtain ⟨k0,k1,k2⟩:=(Bx5.m hSw).cells
                  obtain ⟨p0,p1,p2⟩:=(Bx5.p hSw).cells
                  go_simp
                  try rfl
                as_aux_lemma =>
                 try simp only [List.getElem_toArray,List.getElem_cons_zero,List.getElem_cons_succ,Act.put,List.setIfInBounds_toArray,List.set_cons_zero,List.set_cons_succ]
                 refine wpAnyH_ready (rs:=[24]) (by kernel_rfl) (by simp) ?_
                 refine AllReadyH.cons rfl (fun K hK => ?_) AllReadyH.nil
                 go_simp
                 refine (sameR_any rq rq rt rt ra qa rb.length qm rb.length qc rb rb u4 (HI27.out.below HV4.out) (HI29.out.below HV4.out)).mono ?_;rintro e u5 ⟨rfl,hb5⟩;try dsimp only
                 rw [decide_eq_true rfl]
                 have HV5:=Lib.hid (HV4.out.trans (hb5.mono HV4.out.size))
                 clear hb5
                 refine hK.out _ _ (H512.out.below HV5.out) (fun hS5 => ?_)
                 clear hK K
                 try simp only [List.getElem_toArray,List.getElem_cons_zero,List.getElem_cons_succ,Act.put,List.setIfInBounds_toArray,List.set_cons_zero,List.set_cons_succ]
                 refine tk 25 (.bool false) rfl (fun w' hSw => ?_) hS5 ?_
                 · go_simp
                 refine tk 26 (.bool false) rfl (fun w' hSw => ?_) hS5 ?_
                 · go_simp
                 refine tk 27 (.bool false) rfl (fun w' hSw => ?_) hS5 ?_
                 · go_simp
                 try simp only [List.getElem_toArray,List.getElem_cons_zero,List.getElem_cons_succ,Act.put,List.setIfInBounds_toArray,List.set_cons_zero,List.set_cons_succ]
                 refine tk 28 (.int .i64 oe) rfl (fun w' hSw => ?_) hS5 ?_
                 · go_simp
                 refine tk 29 (.int .i64 oe) rfl (fun w' hSw => ?_) hS5 ?_
                 · go_simp
                 refine tk 30 (.bool false) rfl (fun w' hSw => ?_) hS5 ?_
                 · go_simp
                 as_aux_lemma =>
                  try simp only [List.getElem_toArray,List.getElem_cons_zero,List.getElem_cons_succ,Act.put,List.setIfInBounds_toArray,List.set_cons_zero,List.set_cons_succ]
                  refine tk 31 (.bool false) rfl (fun w' hSw => ?_) hS5 ?_
                  · go_simp
                  refine tk 32 (.bool false) rfl (fun w' hSw => ?_) hS5 ?_
                  · go_simp
                  refine tk 33 (.slice oa ol.length ol.length) rfl (fun w' hSw => ?_) hS5 ?_
                  · go_simp
                  try simp only [List.getElem_toArray,List.getElem_cons_zero,List.getElem_cons_succ,Act.put,List.setIfInBounds_toArray,List.set_cons_zero,List.set_cons_succ]
                  refine tk 34 (.slice pa pm pc) rfl (fun w' hSw => ?_) hS5 ?_
                  · go_simp
                  try simp only [List.getElem_toArray,List.getElem_cons_zero,List.getElem_cons_succ,Act.put,List.setIfInBounds_toArray,List.set_cons_zero,List.set_cons_succ]
                  refine wpAnyH_ready (rs:=[35]) (by kernel_rfl) (by simp) ?_
                  refine AllReadyH.cons rfl (fun K hK => ?_) AllReadyH.nil
                  go_simp
                  refine (sameI_any oa pa ol.length pm ol.length pc ol ol u5 (HI31.out.below HV5.out) (HI33.out.below HV5.out)).mono ?_;rintro e u6 ⟨rfl,hb6⟩;try dsimp only
                  rw [decide_eq_true rfl]
                  have HV6:=Lib.hid (HV5.out.trans (hb6.mono HV5.out.size))
                  clear hb6
                  refine hK.out _ _ (H512.out.below HV6.out) (fun hS6 => ?_)
                  clear hK K
                  try simp only [List.getElem_toArray,List.getElem_cons_zero,List.getElem_cons_succ,Act.put,List.setIfInBounds_toArray,List.set_cons_zero,List.set_cons_succ]
                  refine tk 36 (.bool false) rfl (fun w' hSw => ?_) hS6 ?_
                  · go_simp
                  refine tk 37 (.bool false) rfl (fun w' hSw => ?_) hS6 ?_
                  · go_simp
                  refine tk 38 (.bool false) rfl (fun w' hSw => ?_) hS6 ?_
                  · go_simp
                  as_aux_lemma =>
                   try simp only [List.getElem_toArray,List.getElem_cons_zero,List.getElem_cons_succ,Act.put,List.setIfInBounds_toArray,List.set_cons_zero,List.set_cons_succ]
                   refine tk 39 (.int .i64 oe) rfl (fun w' hSw => ?_) hS6 ?_
                   · go_simp
                   refine tk 40 (.int .i64 oe) rfl (fun w' hSw => ?_) hS6 ?_
                   · go_simp
                   refine tk 41 (.bool false) rfl (fun w' hSw => ?_) hS6 ?_
                   · go_simp
                   try simp only [List.getElem_toArray,List.getElem_cons_zero,List.getElem_cons_succ,Act.put,List.setIfInBounds_toArray,List.set_cons_zero,List.set_cons_succ]
                   refine tk 42 (.bool false) rfl (fun w' hSw => ?_) hS6 ?_
                   · go_simp
                   refine tk 43 (.bool false) rfl (fun w' hSw => ?_) hS6 ?_
                   · go_simp
                   refine tk 44 (.agg mx.cells.toArray) rfl (fun w' hSw => ?_) hS6 ?_
                   · obtain ⟨c0,c1,c2,c3,c4⟩:=(Bx5.c hSw).cells
                     obtain ⟨r0,r1,r2⟩:=(Bx5.r hSw).cells
                     obtain ⟨q0,q1,q2⟩:=(Bx5.q hSw).cells
                     obtain ⟨k0,k1,k2⟩:=(Bx5.m hSw).cells
                     obtain ⟨p0,p1,p2⟩:=(Bx5.p hSw).cells
                     go_simp
                     try rfl
                   try simp only [List.getElem_toArray,List.getElem_cons_zero,List.getElem_cons_succ,Act.put,List.setIfInBounds_toArray,List.set_cons_zero,List.set_cons_succ]
                   refine tk 45 (.agg px.cells.toArray) rfl (fun w' hSw => ?_) hS6 ?_
                   · obtain ⟨c0,c1,c2,c3,c4⟩:=(Bx5.c hSw).cells
                     obtain ⟨r0,r1,r2⟩:=(Bx5.r hSw).cells
                     obtain ⟨q0,q1,q2⟩:=(Bx5.q hSw).cells
                     obtain ⟨k0,k1,k2⟩:=(Bx5.m hSw).cells
                     obtain ⟨p0,p1,p2⟩:=(Bx5.p hSw).cells
                     go_simp
                     try rfl
                   as_aux_lemma =>
                    try simp only [List.getElem_toArray,List.getElem_cons_zero,List.getElem_cons_succ,Act.put,List.setIfInBounds_toArray,List.set_cons_zero,List.set_cons_succ]
                    refine wpAnyH_ready (rs:=[46]) (by kernel_rfl) (by simp) ?_
                    refine AllReadyH.cons rfl (fun K hK => ?_) AllReadyH.nil
                    go_simp
                    refine (sameM_any _ _ mx px MM MM u6 (HI35.out.below HV6.out) (HI37.out.below HV6.out)).mono ?_;rintro e u7 ⟨rfl,hb7⟩;try dsimp only
                    rw [decide_eq_true rfl]
                    have HV7:=Lib.hid (HV6.out.trans (hb7.mono HV6.out.size))
                    clear hb7
                    refine hK.out _ _ (H512.out.below HV7.out) (fun hS7 => ?_)
                    clear hK K
                    try simp only [List.getElem_toArray,List.getElem_cons_zero,List.getElem_cons_succ,Act.put,List.setIfInBounds_toArray,List.set_cons_zero,List.set_cons_succ]
                    refine tk 47 (.bool false) rfl (fun w' hSw => ?_) hS7 ?_
                    · go_simp
                    refine tk 48 (.bool false) rfl (fun w' hSw => ?_) hS7 ?_
                    · go_simp
                    refine wpAnyH_done (by kernel_rfl) ?_ _
                    try simp only [List.getElem_toArray,List.getElem_cons_zero,List.getElem_cons_succ,Act.put,List.setIfInBounds_toArray,List.set_cons_zero,List.set_cons_succ]
                    try go_wp2_with fail
                    go_meet
                    exact ⟨rfl,HV7.out⟩
          case rest =>
            as_aux_lemma =>
             obtain ⟨rfl,hb13⟩:=hcut
             obtain ⟨w13,rfl⟩:∃ w13:World,w13=wc:=⟨_,rfl⟩
             have HL13:=Lib.hid (HL12.out.trans (hb13.mono HL12.out.size))
             have HS13:=Lib.hid (HS0.out.after HL13.out)
             have HK13:=Lib.hid (HK0.out.below HL13.out)
             have HX13:=Lib.hid (H512.out.below hb13)
             have HT13:=Lib.hid (HT12.out.below hb13)
             have HR13:=Lib.hid (HR12.out.below hb13)
             have HQ13:=Lib.hid (HQ12.out.below hb13)
             have HM13:=Lib.hid (HM12.out.below hb13)
             clear hb13 HL12 HK0 H512 HT12 HR12 HQ12 HM12 HCF12 HI27 HI29 HI31 HI33 HI35 HI37 HX0 HS0 HST0 HRE HOL HOE HMM HSAME
             go_wp2_with (first
               | (refine wpList_load_mid rfl 27 (.tmp 25) rfl b25 0 rfl (y1.cells cs.t) _ HX13.out.c.row Tryz.underlying27 rfl infoCfg5 ?_)
               | fail)
             refine (tell_cfg w13 w.heap.size bk w0.heap.size w1.heap.size rd rl (1004+30*j) y1 cs HK13.out HT13.out ⟨by omega,by omega⟩ hw1 hs8 (by omega)).mono ?_;rintro e w14 ⟨rfl,ht14,hk14⟩;try dsimp only
             have HS14:=Lib.hid (HS13.out.kept ht14 hk14)
             have HK14:Hid (BkP w14 w.heap.size bk (QL w2.heap.size rd rl) (1004+30*j+12)):=Lib.hid (hk14.mono (fun k hk=>hk.up hw2) (Nat.le_refl _))
             have HU14:=Lib.hid (HX13.out.r.touch ht14 (bkS_not HX13.out.r (by decide) (fun κ=>by cases κ <;> decide)))
             have HN14:=Lib.hid (HX13.out.m.touch ht14 (bkS_not HX13.out.m (by decide) (fun κ=>by cases κ <;> decide)))
             have HR14:=Lib.hid (HR13.out.keep ht14)
             have HQ14:=Lib.hid (HQ13.out.keep ht14)
             have HM14:=Lib.hid (HM13.out.keep ht14)
             clear ht14 hk14 HS13 HK13 HX13 HT13 HR13 HQ13 HM13 HL13
             go_wp2_with (first
               | (refine wpList_load_mid rfl 60 (.tmp 27) rfl b27 0 rfl [.int .u32 rq,.bool rt,.slice ra rb.length rb.length] _ HU14.out.row Tryz.underlying60 rfl infoRec3 ?_)
               | fail)
             refine (tell_rec w14 w.heap.size bk w2.heap.size w3.heap.size rd rl (1004+30*j+12) ra rb.length (.int .u32 rq) (.bool rt) rfl rfl HK14.out HR14.out ⟨by omega,by omega⟩ hw3 (by omega)).mono ?_;rintro e w15 ⟨rfl,ht15,hk15⟩;try dsimp only
             have HS15:=Lib.hid (HS14.out.kept ht15 hk15)
             have HK15:Hid (BkP w15 w.heap.size bk (QL w6.heap.size rd rl) (1004+30*j+12+1)):=Lib.hid (hk15.mono (fun k hk=>hk.up (by omega)) (Nat.le_refl _))
             have HN15:=Lib.hid (HN14.out.touch ht15 (bkS_not HN14.out (by decide) (fun κ=>by cases κ <;> decide)))
             have HQ15:=Lib.hid (HQ14.out.keep ht15)
             have HM15:=Lib.hid (HM14.out.keep ht15)
             clear ht15 hk15 HS14 HK14 HU14 HN14 HR14 HQ14 HM14
             go_wp2_with fail
             refine (tell_ints w15 w.heap.size bk w6.heap.size w7.heap.size rd rl (1004+30*j+12+1) oa ol.length HK15.out HQ15.out ⟨by omega,by omega⟩ hw7 (by omega)).mono ?_;rintro e w16 ⟨rfl,ht16,hk16⟩;try dsimp only
             have HS16:=Lib.hid (HS15.out.kept ht16 hk16)
             have HK16:Hid (BkP w16 w.heap.size bk (QL w8.heap.size rd rl) (1004+30*j+12+1+1)):=Lib.hid (hk16.mono (fun k hk=>hk.up hw8) (Nat.le_refl _))
             have HN16:=Lib.hid (HN15.out.touch ht16 (bkS_not HN15.out (by decide) (fun κ=>by cases κ <;> decide)))
             have HM16:=Lib.hid (HM15.out.keep ht16)
             clear ht16 hk16 HS15 HK15 HN15 HQ15 HM15
             go_wp2_with (first
               | (refine wpList_load_mid rfl 84 (.tmp 35) rfl b35 0 rfl mx.cells _ HN16.out.row Tryz.underlying84 rfl infoMkt3 ?_)
               | fail)
             refine (tell_mkt w16 w.heap.size bk w8.heap.size w9.heap.size rd rl (1004+30*j+12+1+1) mx MM HK16.out HM16.out ⟨by omega,by omega⟩ hw9 (by omega)).mono ?_;rintro e w17 ⟨rfl,ht17,hk17⟩;try dsimp only
             have HS17:=Lib.hid (HS16.out.kept ht17 hk17)
             clear ht17 hk17 HS16 HK16 HN16 HM16
             go_wp2_with fail
             go_meet
             exact ⟨bd,bl,rd,rl,rc,D,R,rfl,rfl,HS17.out.more (by omega),HF0.out.mono (by omega)⟩
end Go.Proofs.YtgbikngicidbkaaGreatDoor
