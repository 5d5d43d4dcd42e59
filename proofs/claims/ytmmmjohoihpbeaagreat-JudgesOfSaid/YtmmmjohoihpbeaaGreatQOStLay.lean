/- The contracts of the kit on the library's sort of ints,laid at this dump (written by lay-plain.mjs and lay2tpl.py);no condition. -/
import Derived.Shelf.SlIterI.Sorted
import Derived.Shelf.SortM.Plain
import Derived.Shelf.SortM.SortNone
import Derived.Test.YtmmmjohoihpbeaaGreatQOGBase
namespace Go.Proofs.YtmmmjohoihpbeaaGreat
section
open Go.Shelf
def sortA_ren:Go.Shelf.Ren:=⟨fun | 5=>96 | 8=>110 | 7=>109 | 19=>148 | 20=>149 | 10=>139 | 11=>140 | 12=>141 | 13=>142 | 14=>143 | 15=>144 | 16=>145 | 17=>146 | 18=>147 | 30=>174 | 31=>175 | 32=>176 | 33=>177 | 34=>178 | 35=>179 | 40=>190 | n=>n,fun | 23=>22 | 25=>3 | 3=>3 | 32=>104 | 22=>22 | 0=>0 | 44=>71 | 46=>117 | 4=>4 | 36=>167 | 35=>166 | 41=>172 | 5=>5 | 9=>9 | 53=>196 | 57=>200 | 63=>210 | 64=>211 | n=>n,fun | n=>n⟩
theorem sortA:Go.Proofs.SlLaysM.n5 Tryz.prog sortA_ren:={
 mixed:=by kernel_rfl
 f5:=⟨Tryz.f96.name,by decide,Tryz.func96.trans (congrArg some (by kernel_rfl))⟩
 f7:=⟨Tryz.f109.name,by decide,Tryz.func109.trans (congrArg some (by kernel_rfl))⟩
 f8:=Tryz.func110.trans (congrArg some (by kernel_rfl))
 f10:=⟨Tryz.f139.name,by decide,Tryz.func139.trans (congrArg some (by kernel_rfl))⟩
 f11:=⟨Tryz.f140.name,by decide,Tryz.func140.trans (congrArg some (by kernel_rfl))⟩
 f12:=⟨Tryz.f141.name,by decide,Tryz.func141.trans (congrArg some (by kernel_rfl))⟩
 f13:=⟨Tryz.f142.name,by decide,Tryz.func142.trans (congrArg some (by kernel_rfl))⟩
 f14:=⟨Tryz.f143.name,by decide,Tryz.func143.trans (congrArg some (by kernel_rfl))⟩
 f15:=⟨Tryz.f144.name,by decide,Tryz.func144.trans (congrArg some (by kernel_rfl))⟩
 f16:=⟨Tryz.f145.name,by decide,Tryz.func145.trans (congrArg some (by kernel_rfl))⟩
 f17:=⟨Tryz.f146.name,by decide,Tryz.func146.trans (congrArg some (by kernel_rfl))⟩
 f18:=⟨Tryz.f147.name,by decide,Tryz.func147.trans (congrArg some (by kernel_rfl))⟩
 f19:=Tryz.func148.trans (congrArg some (by kernel_rfl))
 f20:=Tryz.func149.trans (congrArg some (by kernel_rfl))
 f30:=⟨Tryz.f174.name,by decide,Tryz.func174.trans (congrArg some (by kernel_rfl))⟩
 f31:=Tryz.func175.trans (congrArg some (by kernel_rfl))
 f32:=Tryz.func176.trans (congrArg some (by kernel_rfl))
 f33:=⟨Tryz.f177.name,by decide,Tryz.func177.trans (congrArg some (by kernel_rfl))⟩
 f34:=⟨Tryz.f178.name,by decide,Tryz.func178.trans (congrArg some (by kernel_rfl))⟩
 f35:=⟨Tryz.f179.name,by decide,Tryz.func179.trans (congrArg some (by kernel_rfl))⟩
 f40:=⟨Tryz.f190.name,by decide,Tryz.func190.trans (congrArg some (by kernel_rfl))⟩
 t0:=Tryz.underlying0
 a0:=Tryz.isAgg0
 z0:=Tryz.sizeOf0
 v0:=Tryz.zeroValue0
 t3:=Tryz.underlying3
 a3:=Tryz.isAgg3
 z3:=Tryz.sizeOf3
 v3:=Tryz.zeroValue3
 t4:=Tryz.underlying4
 a4:=Tryz.isAgg4
 z4:=Tryz.sizeOf4
 v4:=Tryz.zeroValue4
 t5:=Tryz.underlying5
 a5:=Tryz.isAgg5
 z5:=Tryz.sizeOf5
 v5:=Tryz.zeroValue5
 t9:=Tryz.underlying9
 a9:=Tryz.isAgg9
 z9:=Tryz.sizeOf9
 v9:=Tryz.zeroValue9
 t22:=Tryz.underlying22
 a22:=Tryz.isAgg22
 z22:=Tryz.sizeOf22
 v22:=Tryz.zeroValue22
 t23:=Tryz.underlying22
 a23:=Tryz.isAgg22
 z23:=Tryz.sizeOf22
 v23:=Tryz.zeroValue22
 t25:=Tryz.underlying3
 a25:=Tryz.isAgg3
 z25:=Tryz.sizeOf3
 v25:=Tryz.zeroValue3
 t32:=Tryz.underlying104
 a32:=Tryz.isAgg104
 z32:=Tryz.sizeOf104
 v32:=Tryz.zeroValue104
 t35:=Tryz.underlying166
 a35:=Tryz.isAgg166
 z35:=Tryz.sizeOf166
 v35:=Tryz.zeroValue166
 t36:=Tryz.underlying167
 a36:=Tryz.isAgg167
 z36:=Tryz.sizeOf167
 v36:=Tryz.zeroValue167
 t41:=Tryz.underlying172
 a41:=Tryz.isAgg172
 z41:=Tryz.sizeOf172
 v41:=Tryz.zeroValue172
 t44:=Tryz.underlying71
 a44:=Tryz.isAgg71
 z44:=Tryz.sizeOf71
 v44:=Tryz.zeroValue71
 t46:=Tryz.underlying117
 a46:=Tryz.isAgg117
 z46:=Tryz.sizeOf117
 v46:=Tryz.zeroValue117
 t53:=Tryz.underlying196
 a53:=Tryz.isAgg196
 z53:=Tryz.sizeOf196
 v53:=Tryz.zeroValue196
 t57:=Tryz.underlying200
 a57:=Tryz.isAgg200
 z57:=Tryz.sizeOf200
 v57:=Tryz.zeroValue200
 t63:=Tryz.underlying210
 a63:=Tryz.isAgg210
 z63:=Tryz.sizeOf210
 v63:=Tryz.zeroValue210
 t64:=Tryz.underlying211
 a64:=Tryz.isAgg211
 z64:=Tryz.sizeOf211
 v64:=Tryz.zeroValue211 }
end
end Go.Proofs.YtmmmjohoihpbeaaGreat
