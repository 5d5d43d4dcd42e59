/- The package slots: the mark of a record;conditions: those typed. -/
import Derived.Test.YtgbikngicidbkaaGreatDoorQGSlicesBR1Put
import Derived.Test.YtgbikngicidbkaaGreatDoorQGBaseSumsRefTwinLeftSameB
import Derived.Deep.RegionHeld3
namespace Go.Proofs.YtgbikngicidbkaaGreatDoor
open Go.RowKit
set_option linter.unusedVariables false
def mk6 (num:Nat) (b:List UInt8):List UInt8:=leB num 4 ++ leB b.length 2
def mkB (num:Nat) (b:List UInt8):List UInt8:=mk6 num b ++ leB (onN (onN 2166136261 (mk6 num b)) b) 4
theorem mk6_length (num:Nat) (b:List UInt8):(mk6 num b).length=6:=by simp [mk6,leB_length]
theorem mkB_length (num:Nat) (b:List UInt8):(mkB num b).length=10:=by simp [mkB,mk6_length,leB_length]
theorem nput_at {W:World} (a:Option Addr) (n c m:Nat) (l:List UInt8) (v:Nat) (k:Nat) (kI:Int) (w:World) (hkI:kI=(k:Int)) (hB:Below W.heap.size W w) (hl:IsB W a n c l) (hm:n+k=m) (hn:n≤1000) (hv:v<18446744073709551616) (hk0:0<k) (hk:k≤8) :
   Calls Tryz.prog 84 #[.slice a n c,.int .u64 v,.int .i64 kI] w fun e w' => ∃ a',e=.returned (.slice a' m m)∧Below W.heap.size W w'∧Below w.heap.size w w'∧IsB w' a' m m (l ++ leB v k):=by
 obtain rfl:=hl.1
 subst hm hkI
 refine (nput_any a _ c l v k w (hl.below hB) (by omega) hv hk0 hk).mono ?_
 rintro e w' ⟨a',rfl,hb,hi⟩
 exact ⟨a',rfl,hB.trans (hb.mono hB.size),hb,hi⟩
set_option maxHeartbeats 4000000 in
theorem mark_any (num:Nat) (hn32:num<4294967296) (a:Option Addr) (n c:Nat) (b:List UInt8) (w:World) (hb:IsB w a n c b) (hm:b.length≤65535) :
   Calls Tryz.prog 132 #[.agg #[.int .u32 num,.slice a n c]] w fun e w' => ∃ a',e=.returned (.slice a' 10 10)∧Below w.heap.size w w'∧IsB w' a' 10 10 (mkB num b):=by
 obtain rfl:=hb.1
 have hbel:Below w.heap.size w (w.alloc (.cells #[.int .u32 num,.slice a b.length c] 143)):=(Below.refl _ _).alloc (Nat.le_refl _) _
 have hcz:=heap_new w (.cells #[.int .u32 num,.slice a b.length c] 143 (0,0))
 have hb0:=hb.below hbel
 go_enter Tryz.func132,Tryz.ntmps132
 go_wp2_with fail
 generalize w.alloc (.cells #[.int .u32 num,.slice a b.length c] 143)=w0 at hbel hcz hb0 ⊢
 have f0:w0.cell? ⟨w.heap.size,0,none⟩=some (.int .u32 num):=by rw [cell_of_block hcz];rfl
 have f1:w0.cell? ⟨w.heap.size,1,none⟩=some (.slice a b.length c):=by rw [cell_of_block hcz];rfl
 have e1:IntKind.u64.wrap (num:Int)=(num:Int):=by rw [IntKind.wrap_u64];omega
 have e2:IntKind.u64.wrap (b.length:Int)=(b.length:Int):=by rw [IntKind.wrap_u64];omega
 have hd0:=(Below.refl w0.heap.size w0).drew
 go_region_held3 (fun w' => w'.cell? ⟨w.heap.size,0,none⟩=some (.int .u32 num)∧w'.cell? ⟨w.heap.size,1,none⟩=some (.slice a b.length c)) (first
     | with_reducible exact ⟨cell_later hB2 f0,cell_later hB2 f1⟩
     | with_reducible exact ⟨cell_later hB1 f0,cell_later hB1 f1⟩
     | with_reducible exact ⟨cell_later hd0 f0,cell_later hd0 f1⟩) (first
   | (go_at_call 84;((with_reducible refine (nput_at none 0 0 4 [] num 4 4 w0.drew rfl hd0 (IsB.nil _) rfl (by decide) (by omega) (by decide) (by decide)).mono ?_);rintro e w1 ⟨a1,rfl,hB1,_,hi1⟩))
   | (go_at_call 84;((with_reducible refine (nput_at a1 4 4 6 _ b.length 2 2 w1 rfl (Below.refl _ _) hi1 rfl (by decide) (by omega) (by decide) (by decide)).mono ?_);rintro e w2 ⟨a2,rfl,hb2,_,hi2⟩;have hB2:=hB1.trans (hb2.mono hB1.size)))
   | fail)
 have hi2':IsB w2 a2 6 6 (mk6 num b):=by rw [List.nil_append] at hi2;exact hi2
 have h6:=mk6_length num b
 have f0':=cell_later hB2 f0
 have f1':=cell_later hB2 f1
 have hb2':=hb0.below hB2
 have HB2:=Lib.hid (hbel.trans (hB2.mono hbel.size))
 have hmk:mkB num b=mk6 num b ++ leB (onN (onN 2166136261 (mk6 num b)) b) 4:=rfl
 generalize mk6 num b=l6 at hi2' h6 hmk
 have hs1:=onN_lt 2166136261 (by decide) l6
 have hs2:=onN_lt _ hs1 b
 have HMK:=Lib.hid hmk
 clear hi2 hi1 hB1 hb2 hB2 f0 f1 hb0 hd0 hbel hcz e1 e2 hmk hb
 have hs1':onN 2166136261 l6=onN 2166136261 l6:=rfl
 have HS0:Hid (∀ (w:World),IsB w a2 6 6 l6→Calls Tryz.prog 189 #[.slice a2 6 6] w fun e w' => e=.returned (.int .u32 (onN 2166136261 l6))∧Below w.heap.size w w'):=Lib.hid (fun w h=>of_any a2 6 6 l6 w h)
 clear hs1'
 generalize onN 2166136261 l6=s1 at hs1 hs2 HMK HS0
 go_wp2_with fail
 have hd0:=(Below.refl w2.heap.size w2).drew
 have e3:IntKind.u64.wrap ((onN s1 b:Nat):Int)=((onN s1 b:Nat):Int):=by rw [IntKind.wrap_u64];omega
 go_region_held3 (fun w' => w'.cell? ⟨w.heap.size,0,none⟩=some (.int .u32 num)∧w'.cell? ⟨w.heap.size,1,none⟩=some (.slice a b.length c)) (first
     | with_reducible exact ⟨cell_later hB5 f0',cell_later hB5 f1'⟩
     | with_reducible exact ⟨cell_later hB4 f0',cell_later hB4 f1'⟩
     | with_reducible exact ⟨cell_later hB3 f0',cell_later hB3 f1'⟩
     | with_reducible exact ⟨cell_later hd0 f0',cell_later hd0 f1'⟩) (first
   | (go_at_call 189;((with_reducible refine (HS0.out w2.drew (hi2'.below hd0)).mono ?_);rintro e w3 ⟨rfl,hb3⟩;have hB3:Below w2.heap.size w2 w3:=hd0.trans (hb3.mono hd0.size)))
   | (go_at_call 188;((with_reducible refine (on_any a b.length c s1 b w3 hs1 (hb2'.below hB3)).mono ?_);rintro e w4 ⟨rfl,hb4⟩;have hB4:Below w2.heap.size w2 w4:=hB3.trans (hb4.mono hB3.size)))
   | (go_at_call 84;((with_reducible refine (nput_at a2 6 6 10 l6 (onN s1 b) 4 4 w4 rfl hB4 hi2' rfl (by decide) (by omega) (by decide) (by decide)).mono ?_);rintro e w5 ⟨a5,rfl,hB5,_,hi5⟩))
   | fail)
 rw [← HMK.out] at hi5
 go_wp2_with fail
 go_ret
 exact ⟨a5,rfl,HB2.out.trans (hB5.mono HB2.out.size),hi5⟩
end Go.Proofs.YtgbikngicidbkaaGreatDoor
