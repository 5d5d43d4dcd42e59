/- The contracts of the kit on the library's sort of ints,laid at this dump (written by lay-plain.mjs and lay2tpl.py);no condition. -/
import Derived.Shelf.SlIterI.Sorted
import Derived.Shelf.SortM.Plain
import Derived.Shelf.SortM.SortNone
import Derived.Test.YtgbikngicidbkaaGreatDoorQGBaseSumsRefTwinLeftSameB
namespace Go.Proofs.YtgbikngicidbkaaGreatDoor
section
open Go.Shelf
def sortA_ren:Go.Shelf.Ren:=⟨fun | 5=>206 | 8=>213 | 7=>212 | 19=>225 | 20=>226 | 10=>216 | 11=>217 | 12=>218 | 13=>219 | 14=>220 | 15=>221 | 16=>222 | 17=>223 | 18=>224 | 30=>228 | 31=>229 | 32=>230 | 33=>231 | 34=>232 | 35=>233 | 40=>238 | n=>n,fun | 23=>22 | 25=>3 | 3=>3 | 32=>165 | 22=>22 | 0=>0 | 44=>58 | 46=>25 | 4=>4 | 36=>243 | 35=>242 | 41=>247 | 5=>5 | 9=>9 | 53=>252 | 57=>256 | 63=>262 | 64=>263 | n=>n,fun | n=>n⟩
theorem sortA:Go.Proofs.SlLaysM.n5 Tryz.prog sortA_ren:={
 mixed:=by kernel_rfl
 f5:=⟨Tryz.f206.name,by decide,Tryz.func206.trans (congrArg some (by kernel_rfl))⟩
 f7:=⟨Tryz.f212.name,by decide,Tryz.func212.trans (congrArg some (by kernel_rfl))⟩
 f8:=Tryz.func213.trans (congrArg some (by kernel_rfl))
 f10:=⟨Tryz.f216.name,by decide,Tryz.func216.trans (congrArg some (by kernel_rfl))⟩
 f11:=⟨Tryz.f217.name,by decide,Tryz.func217.trans (congrArg some (by kernel_rfl))⟩
 f12:=⟨Tryz.f218.name,by decide,Tryz.func218.trans (congrArg some (by kernel_rfl))⟩
 f13:=⟨Tryz.f219.name,by decide,Tryz.func219.trans (congrArg some (by kernel_rfl))⟩
 f14:=⟨Tryz.f220.name,by decide,Tryz.func220.trans (congrArg some (by kernel_rfl))⟩
 f15:=⟨Tryz.f221.name,by decide,Tryz.func221.trans (congrArg some (by kernel_rfl))⟩
 f16:=⟨Tryz.f222.name,by decide,Tryz.func222.trans (congrArg some (by kernel_rfl))⟩
 f17:=⟨Tryz.f223.name,by decide,Tryz.func223.trans (congrArg some (by kernel_rfl))⟩
 f18:=⟨Tryz.f224.name,by decide,Tryz.func224.trans (congrArg some (by kernel_rfl))⟩
 f19:=Tryz.func225.trans (congrArg some (by kernel_rfl))
 f20:=Tryz.func226.trans (congrArg some (by kernel_rfl))
 f30:=⟨Tryz.f228.name,by decide,Tryz.func228.trans (congrArg some (by kernel_rfl))⟩
 f31:=Tryz.func229.trans (congrArg some (by kernel_rfl))
 f32:=Tryz.func230.trans (congrArg some (by kernel_rfl))
 f33:=⟨Tryz.f231.name,by decide,Tryz.func231.trans (congrArg some (by kernel_rfl))⟩
 f34:=⟨Tryz.f232.name,by decide,Tryz.func232.trans (congrArg some (by kernel_rfl))⟩
 f35:=⟨Tryz.f233.name,by decide,Tryz.func233.trans (congrArg some (by kernel_rfl))⟩
 f40:=⟨Tryz.f238.name,by decide,Tryz.func238.trans (congrArg some (by kernel_rfl))⟩
 t0:=Tryz.underlying0
 a0:=Tryz.isAgg0
 z0:=Tryz.sizeOf0
 v0:=Tryz.zeroValue0
 t3:=Tryz.underlying3
 a3:=Tryz.isAgg3
 z3:=Tryz.sizeOf3
 v3:=Tryz.zeroValue3
 t4:=Tryz.underlying4
 a4:=Tryz.isAgg4
 z4:=Tryz.sizeOf4
 v4:=Tryz.zeroValue4
 t5:=Tryz.underlying5
 a5:=Tryz.isAgg5
 z5:=Tryz.sizeOf5
 v5:=Tryz.zeroValue5
 t9:=Tryz.underlying9
 a9:=Tryz.isAgg9
 z9:=Tryz.sizeOf9
 v9:=Tryz.zeroValue9
 t22:=Tryz.underlying22
 a22:=Tryz.isAgg22
 z22:=Tryz.sizeOf22
 v22:=Tryz.zeroValue22
 t23:=Tryz.underlying22
 a23:=Tryz.isAgg22
 z23:=Tryz.sizeOf22
 v23:=Tryz.zeroValue22
 t25:=Tryz.underlying3
 a25:=Tryz.isAgg3
 z25:=Tryz.sizeOf3
 v25:=Tryz.zeroValue3
 t32:=Tryz.underlying165
 a32:=Tryz.isAgg165
 z32:=Tryz.sizeOf165
 v32:=Tryz.zeroValue165
 t35:=Tryz.underlying242
 a35:=Tryz.isAgg242
 z35:=Tryz.sizeOf242
 v35:=Tryz.zeroValue242
 t36:=Tryz.underlying243
 a36:=Tryz.isAgg243
 z36:=Tryz.sizeOf243
 v36:=Tryz.zeroValue243
 t41:=Tryz.underlying247
 a41:=Tryz.isAgg247
 z41:=Tryz.sizeOf247
 v41:=Tryz.zeroValue247
 t44:=Tryz.underlying58
 a44:=Tryz.isAgg58
 z44:=Tryz.sizeOf58
 v44:=Tryz.zeroValue58
 t46:=Tryz.underlying25
 a46:=Tryz.isAgg25
 z46:=Tryz.sizeOf25
 v46:=Tryz.zeroValue25
 t53:=Tryz.underlying252
 a53:=Tryz.isAgg252
 z53:=Tryz.sizeOf252
 v53:=Tryz.zeroValue252
 t57:=Tryz.underlying256
 a57:=Tryz.isAgg256
 z57:=Tryz.sizeOf256
 v57:=Tryz.zeroValue256
 t63:=Tryz.underlying262
 a63:=Tryz.isAgg262
 z63:=Tryz.sizeOf262
 v63:=Tryz.zeroValue262
 t64:=Tryz.underlying263
 a64:=Tryz.isAgg263
 z64:=Tryz.sizeOf263
 v64:=Tryz.zeroValue263 }
end
end Go.Proofs.YtgbikngicidbkaaGreatDoor
