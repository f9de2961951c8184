/- Lemmas for the law. No conditions. -/
import Derived.Shelf.SlIter.Nil
import Derived.Shelf.SlGeneric
import Derived.Ground.GgzProg
import Derived.Test.YtomgpelfmgkknaaGreatDoorProg
namespace Go.Proofs
open Go.Shelf
def Tryz.keysA_ren:Go.Shelf.Ren:=⟨fun|7=>354|10=>369|n=>n,fun|23=>113|26=>9|3=>4|28=>447|0=>0|27=>446|33=>194|4=>4|n=>n,fun|n=>n⟩
theorem Tryz.keysA:Go.Proofs.SlLaysZ.n7 prog Tryz.keysA_ren:={
 mixed:=by kernel_rfl
 f7:=⟨f354.name,by decide,func354.trans (congrArg some (by kernel_rfl))⟩
 f10:=⟨f369.name,by decide,func369.trans (congrArg some (by kernel_rfl))⟩
 t0:=underlying0
 a0:=isAgg0
 z0:=sizeOf0
 v0:=zeroValue0
 t4:=underlying4
 a4:=isAgg4
 z4:=sizeOf4
 v4:=zeroValue4
 t23:=underlying113
 a23:=isAgg113
 z23:=sizeOf113
 v23:=zeroValue113
 t26:=underlying9
 a26:=isAgg9
 z26:=sizeOf9
 v26:=zeroValue9
 t27:=underlying446
 a27:=isAgg446
 z27:=sizeOf446
 v27:=zeroValue446
 t28:=underlying447
 a28:=isAgg447
 z28:=sizeOf447
 v28:=zeroValue447
 t33:=underlying194
 a33:=isAgg194
 z33:=sizeOf194
 v33:=zeroValue194}
def Tryz.sortedA_ren:Go.Shelf.Ren:=⟨fun|6=>353|8=>367|9=>368|11=>381|13=>122|12=>382|23=>206|24=>207|14=>387|15=>388|16=>389|17=>390|18=>391|19=>392|20=>393|21=>394|22=>395|25=>399|26=>285|27=>286|28=>400|29=>401|30=>371|31=>402|n=>n,fun|26=>9|28=>447|24=>45|0=>0|3=>3|37=>232|48=>307|50=>309|4=>4|40=>300|39=>299|45=>251|5=>5|9=>9|51=>369|55=>373|57=>410|58=>350|33=>194|n=>n,fun|n=>n⟩
theorem Tryz.sortedA:Go.Proofs.SlLaysZ.n6 prog Tryz.sortedA_ren:={
 mixed:=by kernel_rfl
 f6:=⟨f353.name,by decide,func353.trans (congrArg some (by kernel_rfl))⟩
 f8:=⟨f367.name,by decide,func367.trans (congrArg some (by kernel_rfl))⟩
 f11:=⟨f381.name,by decide,func381.trans (congrArg some (by kernel_rfl))⟩
 t0:=underlying0
 a0:=isAgg0
 z0:=sizeOf0
 v0:=zeroValue0
 t24:=underlying45
 a24:=isAgg45
 z24:=sizeOf45
 v24:=zeroValue45
 t26:=underlying9
 a26:=isAgg9
 z26:=sizeOf9
 v26:=zeroValue9
 t28:=underlying447
 a28:=isAgg447
 z28:=sizeOf447
 v28:=zeroValue447
 i26:=by kernel_rfl}
end Go.Proofs
