/- Lemmas for the law. No conditions. -/
import Derived.Shelf.Small.Bits
import Derived.Shelf.Small.Wraps
import Derived.Shelf.Strings.Search1
import Derived.Shelf.Strings.Search2
import Derived.Shelf.Strings.Search3
import Derived.Shelf.Sort.Plain
import Derived.Shelf.Strings.Prefix
import Derived.Shelf.Bits.Mul64
import Derived.Shelf.Slices.Reverse
import Derived.Ground.Names2Prog
import Derived.Shelf.Slices.CompactI
import Derived.Shelf.Slices.In.SortNone
import Derived.Shelf.Slices.Empties2
import Derived.Test.YtomgpelfmgkknaaGreatDoorProg
namespace Go.Proofs
open Go.Shelf
def Tryz.G7:Go.Shelf.Ren:=⟨fun|125=>122|128=>206|129=>207|n=>n,fun|46=>232|3=>3|51=>307|53=>309|4=>4|5=>5|9=>9|n=>n,fun|n=>n⟩
theorem Tryz.lays125:Go.Proofs.Lays.n125 prog Tryz.G7:={
 mixed:=by kernel_rfl
 f125:=func122.trans (congrArg some (by kernel_rfl))
 f128:=func206.trans (congrArg some (by kernel_rfl))
 f129:=func207.trans (congrArg some (by kernel_rfl))
 t3:=underlying3
 a3:=isAgg3
 z3:=sizeOf3
 v3:=zeroValue3
 t4:=underlying4
 a4:=isAgg4
 z4:=sizeOf4
 v4:=zeroValue4
 t5:=underlying5
 a5:=isAgg5
 z5:=sizeOf5
 v5:=zeroValue5
 t9:=underlying9
 a9:=isAgg9
 z9:=sizeOf9
 v9:=zeroValue9
 t46:=underlying232
 a46:=isAgg232
 z46:=sizeOf232
 v46:=zeroValue232
 t51:=underlying307
 a51:=isAgg307
 z51:=sizeOf307
 v51:=zeroValue307
 t53:=underlying309
 a53:=isAgg309
 z53:=sizeOf309
 v53:=zeroValue309}
theorem Tryz.bits_Len(x:Int)(w:World)(h0:0<=x)(h1:x<=18446744073709551615):
 Calls prog 122 #[.int .u64 x] w fun e w'=>e=.returned (.int .i64 (Lib.bitLen x.toNat))/\w'=w:=Any.bits_Len Tryz.lays125 x w h0 h1
def Tryz.G8:Go.Shelf.Ren:=⟨fun|122=>249|215=>289|n=>n,fun|3=>3|4=>4|n=>n,fun|n=>n⟩
theorem Tryz.Vn:Go.Proofs.Lays.n122 prog Tryz.G8:={
 mixed:=by kernel_rfl
 f122:=func249.trans (congrArg some (by kernel_rfl))
 f215:=func289.trans (congrArg some (by kernel_rfl))
 t3:=underlying3
 a3:=isAgg3
 z3:=sizeOf3
 v3:=zeroValue3
 t4:=underlying4
 a4:=isAgg4
 z4:=sizeOf4
 v4:=zeroValue4}
open Go.RowKit in
theorem Tryz.cmp_Compare_int(x y:Int)(w:World):
 Calls prog 249 #[.int .i64 x,.int .i64 y] w fun e w'=>e=.returned (.int .i64 (Lib.compareInt x y))/\w'=w:=Any.cmp_Compare_int Tryz.Vn x y w
def Tryz.G9:Go.Shelf.Ren:=⟨fun|144=>192|143=>283|219=>319|217=>344|225=>345|224=>346|267=>347|266=>362|314=>363|n=>n,fun|9=>9|4=>4|3=>3|5=>5|46=>232|146=>456|51=>307|n=>n,fun|1=>2|n=>n⟩
theorem Tryz.lays144:Go.Proofs.Lays.n144 prog Tryz.G9:={
 mixed:=by kernel_rfl
 f143:=func283.trans (congrArg some (by kernel_rfl))
 f144:=func192.trans (congrArg some (by kernel_rfl))
 f217:=func344.trans (congrArg some (by kernel_rfl))
 f219:=func319.trans (congrArg some (by kernel_rfl))
 f224:=func346.trans (congrArg some (by kernel_rfl))
 f225:=func345.trans (congrArg some (by kernel_rfl))
 f266:=func362.trans (congrArg some (by kernel_rfl))
 f267:=func347.trans (congrArg some (by kernel_rfl))
 f314:=func363.trans (congrArg some (by kernel_rfl))
 t3:=underlying3
 a3:=isAgg3
 z3:=sizeOf3
 v3:=zeroValue3
 t4:=underlying4
 a4:=isAgg4
 z4:=sizeOf4
 v4:=zeroValue4
 t5:=underlying5
 a5:=isAgg5
 z5:=sizeOf5
 v5:=zeroValue5
 t9:=underlying9
 a9:=isAgg9
 z9:=sizeOf9
 v9:=zeroValue9
 t46:=underlying232
 a46:=isAgg232
 z46:=sizeOf232
 v46:=zeroValue232
 t51:=underlying307
 a51:=isAgg307
 z51:=sizeOf307
 v51:=zeroValue307
 t146:=underlying456
 a146:=isAgg456
 z146:=sizeOf456
 v146:=zeroValue456
 g1:=by kernel_rfl}
open Go.RowKit Go.Lib in
theorem Tryz.strings_Contains(s sub:ByteArray)(m:Int)(w:World)(hs:s.size<4294967281)(hm:w.cell? ⟨2,0,none⟩=some (.int .i64 m)):
 Calls prog 192 #[.string s,.string sub] w fun e w'=>e=.returned (.bool (Lib.contains s.data.toList sub.data.toList))/\w'=w:=Any.strings_Contains Tryz.lays144 s sub m w hs hm
def Tryz.Ha:Go.Shelf.Ren:=⟨fun|189=>34|125=>122|257=>121|128=>206|129=>207|294=>197|295=>198|296=>199|297=>200|298=>201|299=>202|216=>203|300=>204|301=>205|328=>284|329=>285|330=>286|331=>287|332=>288|215=>289|343=>320|n=>n,fun|28=>66|3=>3|46=>232|0=>0|51=>307|53=>309|4=>4|183=>300|182=>299|131=>251|5=>5|9=>9|218=>369|222=>373|228=>410|229=>350|n=>n,fun|n=>n⟩
theorem Tryz.lays189:Go.Proofs.Lays.n189 prog Tryz.Ha:={
 mixed:=by kernel_rfl
 f125:=func122.trans (congrArg some (by kernel_rfl))
 f128:=func206.trans (congrArg some (by kernel_rfl))
 f129:=func207.trans (congrArg some (by kernel_rfl))
 f189:=func34.trans (congrArg some (by kernel_rfl))
 f215:=func289.trans (congrArg some (by kernel_rfl))
 f216:=func203.trans (congrArg some (by kernel_rfl))
 f257:=func121.trans (congrArg some (by kernel_rfl))
 f294:=func197.trans (congrArg some (by kernel_rfl))
 f295:=func198.trans (congrArg some (by kernel_rfl))
 f296:=func199.trans (congrArg some (by kernel_rfl))
 f297:=func200.trans (congrArg some (by kernel_rfl))
 f298:=func201.trans (congrArg some (by kernel_rfl))
 f299:=func202.trans (congrArg some (by kernel_rfl))
 f300:=func204.trans (congrArg some (by kernel_rfl))
 f301:=func205.trans (congrArg some (by kernel_rfl))
 f328:=func284.trans (congrArg some (by kernel_rfl))
 f329:=func285.trans (congrArg some (by kernel_rfl))
 f330:=func286.trans (congrArg some (by kernel_rfl))
 f331:=func287.trans (congrArg some (by kernel_rfl))
 f332:=func288.trans (congrArg some (by kernel_rfl))
 f343:=func320.trans (congrArg some (by kernel_rfl))
 t0:=underlying0
 a0:=isAgg0
 z0:=sizeOf0
 v0:=zeroValue0
 t3:=underlying3
 a3:=isAgg3
 z3:=sizeOf3
 v3:=zeroValue3
 t4:=underlying4
 a4:=isAgg4
 z4:=sizeOf4
 v4:=zeroValue4
 t5:=underlying5
 a5:=isAgg5
 z5:=sizeOf5
 v5:=zeroValue5
 t9:=underlying9
 a9:=isAgg9
 z9:=sizeOf9
 v9:=zeroValue9
 t28:=underlying66
 a28:=isAgg66
 z28:=sizeOf66
 v28:=zeroValue66
 t46:=underlying232
 a46:=isAgg232
 z46:=sizeOf232
 v46:=zeroValue232
 t51:=underlying307
 a51:=isAgg307
 z51:=sizeOf307
 v51:=zeroValue307
 t53:=underlying309
 a53:=isAgg309
 z53:=sizeOf309
 v53:=zeroValue309
 t131:=underlying251
 a131:=isAgg251
 z131:=sizeOf251
 v131:=zeroValue251
 t182:=underlying299
 a182:=isAgg299
 z182:=sizeOf299
 v182:=zeroValue299
 t183:=underlying300
 a183:=isAgg300
 z183:=sizeOf300
 v183:=zeroValue300
 t218:=underlying369
 a218:=isAgg369
 z218:=sizeOf369
 v218:=zeroValue369
 t222:=underlying373
 a222:=isAgg373
 z222:=sizeOf373
 v222:=zeroValue373
 t228:=underlying410
 a228:=isAgg410
 z228:=sizeOf410
 v228:=zeroValue410
 t229:=underlying350
 a229:=isAgg350
 z229:=sizeOf350
 v229:=zeroValue350}
open Go.Sort Go.RowKit in
theorem Tryz.slices_Sort_int(blk off cap:Nat)(zs:List Int)(w:World)(hH:Holds (Value.int .i64) w blk off zs.toArray)(hblk:blk<w.heap.size)(hsz:zs.length<4611686018427387904):
 Calls prog 34 #[.slice (some ⟨blk,off,none⟩) zs.length cap] w fun e w'=>
  e=.returned (.tuple #[])/\∃n os,w'=grow (putRow (Value.int .i64) (Sort.ahead w n) blk off (zs.mergeSort fun x y=>decide (x<=y)).toArray) os:=Any.slices_Sort_int Tryz.lays189 blk off cap zs w hH hblk hsz
def Tryz.Hb:Go.Shelf.Ren:=⟨fun|190=>368|125=>122|258=>382|128=>206|129=>207|302=>387|303=>388|304=>389|305=>390|306=>391|307=>392|308=>393|309=>394|310=>395|333=>399|329=>285|330=>286|334=>400|335=>401|336=>371|344=>402|n=>n,fun|31=>45|9=>9|3=>3|46=>232|0=>0|51=>307|53=>309|4=>4|183=>300|182=>299|131=>251|5=>5|218=>369|222=>373|228=>410|229=>350|n=>n,fun|n=>n⟩
theorem Tryz.lays190:Go.Proofs.Lays.n190 prog Tryz.Hb:={
 mixed:=by kernel_rfl
 f125:=func122.trans (congrArg some (by kernel_rfl))
 f128:=func206.trans (congrArg some (by kernel_rfl))
 f129:=func207.trans (congrArg some (by kernel_rfl))
 f190:=func368.trans (congrArg some (by kernel_rfl))
 f258:=func382.trans (congrArg some (by kernel_rfl))
 f302:=func387.trans (congrArg some (by kernel_rfl))
 f303:=func388.trans (congrArg some (by kernel_rfl))
 f304:=func389.trans (congrArg some (by kernel_rfl))
 f305:=func390.trans (congrArg some (by kernel_rfl))
 f306:=func391.trans (congrArg some (by kernel_rfl))
 f307:=func392.trans (congrArg some (by kernel_rfl))
 f308:=func393.trans (congrArg some (by kernel_rfl))
 f309:=func394.trans (congrArg some (by kernel_rfl))
 f310:=func395.trans (congrArg some (by kernel_rfl))
 f329:=func285.trans (congrArg some (by kernel_rfl))
 f330:=func286.trans (congrArg some (by kernel_rfl))
 f333:=func399.trans (congrArg some (by kernel_rfl))
 f334:=func400.trans (congrArg some (by kernel_rfl))
 f335:=func401.trans (congrArg some (by kernel_rfl))
 f336:=func371.trans (congrArg some (by kernel_rfl))
 f344:=func402.trans (congrArg some (by kernel_rfl))
 t0:=underlying0
 a0:=isAgg0
 z0:=sizeOf0
 v0:=zeroValue0
 t3:=underlying3
 a3:=isAgg3
 z3:=sizeOf3
 v3:=zeroValue3
 t4:=underlying4
 a4:=isAgg4
 z4:=sizeOf4
 v4:=zeroValue4
 t5:=underlying5
 a5:=isAgg5
 z5:=sizeOf5
 v5:=zeroValue5
 t9:=underlying9
 a9:=isAgg9
 z9:=sizeOf9
 v9:=zeroValue9
 t31:=underlying45
 a31:=isAgg45
 z31:=sizeOf45
 v31:=zeroValue45
 t46:=underlying232
 a46:=isAgg232
 z46:=sizeOf232
 v46:=zeroValue232
 t51:=underlying307
 a51:=isAgg307
 z51:=sizeOf307
 v51:=zeroValue307
 t53:=underlying309
 a53:=isAgg309
 z53:=sizeOf309
 v53:=zeroValue309
 t131:=underlying251
 a131:=isAgg251
 z131:=sizeOf251
 v131:=zeroValue251
 t182:=underlying299
 a182:=isAgg299
 z182:=sizeOf299
 v182:=zeroValue299
 t183:=underlying300
 a183:=isAgg300
 z183:=sizeOf300
 v183:=zeroValue300
 t218:=underlying369
 a218:=isAgg369
 z218:=sizeOf369
 v218:=zeroValue369
 t222:=underlying373
 a222:=isAgg373
 z222:=sizeOf373
 v222:=zeroValue373
 t228:=underlying410
 a228:=isAgg410
 z228:=sizeOf410
 v228:=zeroValue410
 t229:=underlying350
 a229:=isAgg350
 z229:=sizeOf350
 v229:=zeroValue350}
open Go.Sort Go.RowKit in
theorem Tryz.slices_Sort_string(blk off cap:Nat)(ss:List (List UInt8))(w:World)(hH:Holds encStr w blk off ss.toArray)(hblk:blk<w.heap.size)(hsz:ss.length<4611686018427387904):
 Calls prog 368 #[.slice (some ⟨blk,off,none⟩) ss.length cap] w fun e w'=>
  e=.returned (.tuple #[])/\∃n os,w'=grow (putRow encStr (Sort.ahead w n) blk off (ss.mergeSort fun x y=>decide (x<=y)).toArray) os:=Any.slices_Sort_string Tryz.lays190 blk off cap ss w hH hblk hsz
def Tryz.lays99_ren:Go.Shelf.Ren:=⟨fun|99=>212|206=>290|n=>n,fun|9=>9|4=>4|3=>3|n=>n,fun|n=>n⟩
theorem Tryz.lays99:Go.Proofs.Lays.n99 prog Tryz.lays99_ren:={
 mixed:=by kernel_rfl
 f99:=func212.trans (congrArg some (by kernel_rfl))
 f206:=func290.trans (congrArg some (by kernel_rfl))
 t3:=underlying3
 a3:=isAgg3
 z3:=sizeOf3
 v3:=zeroValue3
 t4:=underlying4
 a4:=isAgg4
 z4:=sizeOf4
 v4:=zeroValue4
 t9:=underlying9
 a9:=isAgg9
 z9:=sizeOf9
 v9:=zeroValue9}
open Go.RowKit Go.Lib in
theorem Tryz.strings_HasPrefix(s p:ByteArray)(w:World):
 Calls prog 212 #[.string s,.string p] w fun e w'=>e=.returned (.bool (Lib.hasPrefix s.data.toList p.data.toList))/\w'=w:=Any.strings_HasPrefix Tryz.lays99 s p w
def Tryz.Hc:Go.Shelf.Ren:=⟨fun|212=>383|263=>396|264=>397|n=>n,fun|46=>232|51=>307|146=>456|53=>309|148=>491|n=>n,fun|n=>n⟩
theorem Tryz.lays212:Go.Proofs.Lays.n212 prog Tryz.Hc:={
 mixed:=by kernel_rfl
 f212:=func383.trans (congrArg some (by kernel_rfl))
 f263:=func396.trans (congrArg some (by kernel_rfl))
 f264:=func397.trans (congrArg some (by kernel_rfl))
 t46:=underlying232
 a46:=isAgg232
 z46:=sizeOf232
 v46:=zeroValue232
 t51:=underlying307
 a51:=isAgg307
 z51:=sizeOf307
 v51:=zeroValue307
 t53:=underlying309
 a53:=isAgg309
 z53:=sizeOf309
 v53:=zeroValue309
 t146:=underlying456
 a146:=isAgg456
 z146:=sizeOf456
 v146:=zeroValue456
 t148:=underlying491
 a148:=isAgg491
 z148:=sizeOf491
 v148:=zeroValue491}
open Go.RowKit Go.Lib in
theorem Tryz.bits_Mul(x y:Nat)(hx:x<18446744073709551616)(hy:y<18446744073709551616)(w:World):
 Calls prog 383 #[.int .u64 x,.int .u64 y] w fun e w'=>e=.returned (.tuple #[.int .u64 ((x*y / 18446744073709551616:Nat):Int),.int .u64 ((x*y%18446744073709551616:Nat):Int)])/\w'=w:=Any.bits_Mul Tryz.lays212 x y hx hy w
def Tryz.lays112_ren:Go.Shelf.Ren:=⟨fun|112=>36|n=>n,fun|28=>66|3=>3|4=>4|0=>0|n=>n,fun|n=>n⟩
theorem Tryz.lays112:Go.Proofs.Lays.n112 prog Tryz.lays112_ren:={
 mixed:=by kernel_rfl
 f112:=func36.trans (congrArg some (by kernel_rfl))
 t0:=underlying0
 a0:=isAgg0
 z0:=sizeOf0
 v0:=zeroValue0
 t3:=underlying3
 a3:=isAgg3
 z3:=sizeOf3
 v3:=zeroValue3
 t4:=underlying4
 a4:=isAgg4
 z4:=sizeOf4
 v4:=zeroValue4
 t28:=underlying66
 a28:=isAgg66
 z28:=sizeOf66
 v28:=zeroValue66}
open Go.RowKit Go.Lib Go.Sort in
theorem Tryz.slices_Reverse_int(blk off cap:Nat)(zs:List Int)(w:World)(hH:Holds (Value.int .i64) w blk off zs.toArray)(hsz:zs.length<=9223372036854775807):
 Calls prog 36 #[.slice (some ⟨blk,off,none⟩) zs.length cap] w fun e w'=>e=.returned (.tuple #[])/\∃n,w'=putRow (Value.int .i64) (Sort.ahead w n) blk off zs.reverse.toArray:=Any.slices_Reverse_int Tryz.lays112 blk off cap zs w hH hsz
open Go.RowKit Go.Lib Go.Sort in
theorem Tryz.slices_Reverse_int_empty(a:Option Addr)(cap:Nat)(w:World):
 Calls prog 36 #[.slice a 0 cap] w fun e w'=>e=.returned (.tuple #[])/\w'=w:=Any.slices_Reverse_int_empty Tryz.lays112 a cap w
def Tryz.CM:Go.Shelf.Ren:=⟨fun|20=>35|n=>n,fun|22=>66|3=>3|4=>4|0=>0|n=>n,fun|n=>n⟩
theorem Tryz.DC:Go.Proofs.Lays2.n20 prog Tryz.CM:={
 mixed:=by kernel_rfl
 f20:=func35.trans (congrArg some (by kernel_rfl))
 t0:=underlying0
 a0:=isAgg0
 z0:=sizeOf0
 v0:=zeroValue0
 t3:=underlying3
 a3:=isAgg3
 z3:=sizeOf3
 v3:=zeroValue3
 t4:=underlying4
 a4:=isAgg4
 z4:=sizeOf4
 v4:=zeroValue4
 t22:=underlying66
 a22:=isAgg66
 z22:=sizeOf66
 v22:=zeroValue66
 i3:=by kernel_rfl}
open Go.RowKit Go.Lib Go.Sort in
theorem Tryz.slices_Compact_int(blk off cap:Nat)(zs:List Int)(w:World)(hH:Holds (Value.int .i64) w blk off zs.toArray)(hsz:zs.length<=9223372036854775807)(hcap:zs.length<=cap):
 Calls prog 35 #[.slice (some ⟨blk,off,none⟩) zs.length cap] w fun e w'=>e=.returned (.slice (some ⟨blk,off,none⟩) (Lib.compact zs).length cap)/\∃q,w'=putRow (Value.int .i64) (Sort.ahead w q) blk off (Lib.compact zs++List.replicate (zs.length - (Lib.compact zs).length) 0).toArray:=Any.slices_Compact_int Tryz.DC blk off cap zs w hH hsz hcap
open Go.RowKit Go.Lib Go.Sort in
theorem Tryz.slices_Compact_int_empty(a:Option Addr)(cap:Nat)(w:World):
 Calls prog 35 #[.slice a 0 cap] w fun e w'=>e=.returned (.slice a 0 cap)/\w'=w:=Any.slices_Compact_int_empty Tryz.DC a cap w
open Go.RowKit Go.Sort in
theorem Tryz.slices_Sort_string_none(p:Option Addr)(cap:Nat)(w:World):
 Calls prog 368 #[.slice p 0 cap] w fun e w'=>e=.returned (.tuple #[])/\w'=w:=Any.slices_Sort_string_none Tryz.lays190 p cap w
open Go.RowKit Go.Sort in
theorem Tryz.slices_Sort_int_none(p:Option Addr)(cap:Nat)(w:World):
 Calls prog 34 #[.slice p 0 cap] w fun e w'=>e=.returned (.tuple #[])/\w'=w:=Any.slices_Sort_int_none Tryz.lays189 p cap w
end Go.Proofs
