/- Facts on the memory that stay when only new blocks are made;no condition. -/
import Derived.Test.YtgbikngicidbkaaGreatDoorQGHeapBFz
import Derived.Test.YtgbikngicidbkaaGreatDoorQGIntsLeftI
namespace Go.Proofs.YtgbikngicidbkaaGreatDoor
open Go.RowKit
set_option linter.unusedVariables false
class Stb (P:World→Prop):Prop where
 up':∀ (w w':World),Below w.heap.size w w'→P w→P w'
theorem up {P:World→Prop} {w w':World} (hb:Below w.heap.size w w') (h:P w) [s:Stb P]:P w':=s.up' w w' hb h
instance (priority:=low) stbConst (Q:Prop):Stb (fun _=>Q):=⟨fun _ _ _ h=>h⟩
instance stbAnd (P Q:World→Prop) [hp:Stb P] [hq:Stb Q]:Stb (fun w=>P w∧Q w):=⟨fun w w' hb h=>⟨hp.up' w w' hb h.1,hq.up' w w' hb h.2⟩⟩
instance stbHid (P:World→Prop) [hp:Stb P]:Stb (fun w=>Hid (P w)):=⟨fun w w' hb h=>hp.up' w w' hb h⟩
instance stbEx {α:Sort _} (P:α→World→Prop) [hp:∀ x,Stb (P x)]:Stb (fun w => ∃ x,P x w):=⟨fun w w' hb h=>by obtain ⟨x,h⟩:=h;exact ⟨x,(hp x).up' w w' hb h⟩⟩
instance stbAll {α:Sort _} (P:α→World→Prop) [hp:∀ x,Stb (P x)]:Stb (fun w => ∀ x,P x w):=⟨fun w w' hb h x=>(hp x).up' w w' hb (h x)⟩
instance stbB (a:Option Addr) (n c:Nat) (l:List UInt8):Stb (fun w=>IsB w a n c l):=⟨fun _ _ hb h=>h.below hb⟩
instance stbI (a:Option Addr) (n c:Nat) (l:List Int):Stb (fun w=>IsI w a n c l):=⟨fun _ _ hb h=>h.below hb⟩
instance stbHeap (k:Nat) (o:Obj):Stb (fun w=>w.heap[k]?=some o):=⟨fun _ _ hb h=>below_heap hb h (lt_of_heap h)⟩
instance stbCell (p:Addr) (v:Value):Stb (fun w=>w.cell? p=some v):=⟨fun _ _ hb h=>(hb.cell (World.block_lt_of_cell? _ _ h)).trans h⟩
instance stbLt (k:Nat):Stb (fun w=>k<w.heap.size):=⟨fun _ _ hb h=>Nat.lt_of_lt_of_le h hb.size⟩
instance stbLe (k:Nat):Stb (fun w=>k≤w.heap.size):=⟨fun _ _ hb h=>Nat.le_trans h hb.size⟩
instance stbBelow (w0:World):Stb (fun w=>Below w0.heap.size w0 w):=⟨fun _ _ hb h=>h.trans (hb.mono h.size)⟩
instance stbTouch (S:Nat→Prop) (w0:World):Stb (fun w=>Touch S w0 w):=⟨fun _ _ hb h=>h.trans (Touch.of_below hb)⟩
theorem blk_free {w:World} {bk i:Nat} {C:Array Value} {t:TypeId} (h:w.heap[bk]?=some (.cells C t (0,0))):w.frozen? ⟨bk,i,none⟩=false:=by simp [World.frozen?,h]
end Go.Proofs.YtgbikngicidbkaaGreatDoor
