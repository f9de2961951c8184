/- Lemmas for the law. No conditions. -/
import Derived.Test.YtomgpelfmgkknaaGreatDoorRows
import Derived.JoinedOf
import Derived.KernelRfl
namespace Go.Proofs.YtomgpelfmgkknaaGreatDoor
open Go.Proofs.Tryz
set_option maxRecDepth 100000
set_option maxHeartbeats 40000000
set_option linter.unusedVariables false
set_option linter.unusedSimpArgs false
theorem Lj:(Rows.topGraceUptoRow.wf (OpenSpec.ofChange (Rows.OpenSpec.upto Rows.topGraceSpec).bare):Bool)=true:=by kernel_rfl
theorem Lk:(laidOutB prog:Bool)=true:=by kernel_rfl
theorem Ll:(mapsRowed prog:Bool)=true:=by kernel_rfl
theorem Lm:(f4.params.all (prog.readableRec ·):Bool)=true:=by kernel_rfl
theorem Ln:(namedTie prog Rows.topGraceUptoRow.named (Rows.OpenSpec.upto Rows.topGraceSpec).bare.vars:Bool)=true:=by kernel_rfl
theorem Lp:((Rows.topGraceUptoRow.stops== []):Bool)=true:=by kernel_rfl
theorem Lq:((prog.stops== []):Bool)=true:=by kernel_rfl
theorem Lr:((Rows.topGraceUptoRow.knobs== []):Bool)=true:=by kernel_rfl
theorem Ls:((prog.stopKnobs== []):Bool)=true:=by kernel_rfl
theorem Lt:((Rows.topGraceUptoRow.inPlace==prog.inPlace 4):Bool)=true:=by kernel_rfl
theorem Gb:((Rows.topGraceUptoRow.unfollowed==prog.unfollowed 4):Bool)=true:=by kernel_rfl
theorem Gc:((Rows.topGraceUptoRow.recurses==prog.recurses 4):Bool)=true:=by kernel_rfl
theorem Gd:((Rows.topGraceUptoRow.named==prog.varsNamed 4):Bool)=true:=by kernel_rfl
theorem Ge:((Rows.topGraceUptoRow.maps==(f4.params.toList++(Rows.OpenSpec.upto Rows.topGraceSpec).bare.plain.varTypes prog).any (prog.mapsRec ·)):Bool)=true:=by kernel_rfl
theorem Gf:((Rows.topGraceUptoRow.ifaces==(f4.params.toList++(Rows.OpenSpec.upto Rows.topGraceSpec).bare.plain.varTypes prog).any (prog.ifacesRec ·)):Bool)=true:=by kernel_rfl
theorem Gg:((Rows.topGraceUptoRow.mapsOut==prog.mapsAmong f4.resultTypes.toList):Bool)=true:=by kernel_rfl
theorem Gh:((Rows.topGraceUptoRow.loops==(f4.params.toList++(Rows.OpenSpec.upto Rows.topGraceSpec).bare.plain.varTypes prog).any (prog.loopsFrom ·)):Bool)=true:=by kernel_rfl
theorem Gi:((Rows.topGraceUptoRow.wideKeys==(f4.params.toList++(Rows.OpenSpec.upto Rows.topGraceSpec).bare.plain.varTypes prog++f4.resultTypes.toList).any (prog.wideKeysFrom ·)):Bool)=true:=by kernel_rfl
theorem Gj:((Rows.OpenSpec.upto Rows.topGraceSpec).bare.vars.all (prog.varReadable ·):Bool)=true:=by kernel_rfl
theorem Gk:(f4.resultTypes.all (fun t=>prog.readableRec t&&decide (t<prog.types.size)):Bool)=true:=by kernel_rfl
theorem Gm:((Rows.topGraceUptoRow.ifacesOut==f4.resultTypes.toList.any (prog.ifacesRec ·)):Bool)=true:=by kernel_rfl
theorem Gn:((Rows.topGraceUptoRow.loopsOut==f4.resultTypes.toList.any (prog.loopsFrom ·)):Bool)=true:=by kernel_rfl
theorem Gp:((Rows.topGraceUptoRow.plainKeys==prog.plainKeys):Bool)=true:=by kernel_rfl
theorem Gq:(Rows.topGraceUptoRow.shortTexts.isNone:Bool)=true:=by kernel_rfl
theorem Gr:(prog.stopsHeard:Bool)=true:=by kernel_rfl
theorem Gs:(prog.mayEnter:Bool)=true:=by kernel_rfl
theorem Gt:((Rows.topGraceUptoRow.lifted==prog.liftsFinal):Bool)=true:=by kernel_rfl
theorem Gu:((prog.make==some Rows.topGraceUptoRow.make):Bool)=true:=by kernel_rfl
theorem Gv:((Rows.topGraceUptoRow.kinds==(if Rows.topGraceUptoRow.domain.isEmpty then []else f4.params.toList.map fun t=>match prog.underlying t with|some (.int k)=>some k|_=>none)):Bool)=true:=by kernel_rfl
theorem Gw:((Rows.topGraceUptoRow.pinned==Rows.topGraceUptoRow.pinnedBy):Bool)=true:=by kernel_rfl
theorem Gx:((Rows.topGraceUptoRow.veiled==(f4.params.toList++(Rows.OpenSpec.upto Rows.topGraceSpec).bare.plain.varTypes prog++f4.resultTypes.toList).any (prog.veiledRec ·)):Bool)=true:=by kernel_rfl
theorem Gy:(Rows.topGraceUptoRow.veiledFits prog f4.params.toList (f4.params.toList++(Rows.OpenSpec.upto Rows.topGraceSpec).bare.plain.varTypes prog++f4.resultTypes.toList):Bool)=true:=by kernel_rfl
theorem aS{a b:Bool}(h:a=true)(k:b=true):(a&&b)=true:=by rw[h,k];rfl
theorem vB:joinedFacts prog 4 f4 (Rows.OpenSpec.upto Rows.topGraceSpec).bare Rows.topGraceUptoRow=true:=(aS (aS (aS (aS (aS (aS (aS (aS (aS (aS (aS (aS (aS (aS (aS (aS (aS (aS (aS (aS (aS (aS (aS (aS (aS (aS (aS (aS (aS (aS (aS Lj Lk) Ll) Lm) Ln) Lp) Lq) Lr) Ls) Lt) Gb) Gc) Gd) Ge) Gf) Gg) Gh) Gi) Gj) Gk) Gm) Gn) Gp) Gq) Gr) Gs) Gt) Gu) Gv) Gw) Gx) Gy)
end Go.Proofs.YtomgpelfmgkknaaGreatDoor
