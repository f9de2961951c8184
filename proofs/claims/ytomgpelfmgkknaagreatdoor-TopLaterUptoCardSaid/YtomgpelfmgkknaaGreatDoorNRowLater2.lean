/- Lemmas for the law. No conditions. -/
import Derived.Test.YtomgpelfmgkknaaGreatDoorRows
import Derived.JoinedOf
import Derived.KernelRfl
namespace Go.Proofs.YtomgpelfmgkknaaGreatDoor
open Go.Proofs.Tryz
set_option maxRecDepth 100000
set_option maxHeartbeats 40000000
set_option linter.unusedVariables false
set_option linter.unusedSimpArgs false
theorem Lj:(Rows.topLaterUptoRow.wf (OpenSpec.ofChange (Rows.OpenSpec.upto Rows.topLaterSpec).bare):Bool)=true:=by kernel_rfl
theorem Lk:(laidOutB prog:Bool)=true:=by kernel_rfl
theorem Ll:(mapsRowed prog:Bool)=true:=by kernel_rfl
theorem Lm:(f3.params.all (prog.readableRec ·):Bool)=true:=by kernel_rfl
theorem Ln:(namedTie prog Rows.topLaterUptoRow.named (Rows.OpenSpec.upto Rows.topLaterSpec).bare.vars:Bool)=true:=by kernel_rfl
theorem Lp:((Rows.topLaterUptoRow.stops== []):Bool)=true:=by kernel_rfl
theorem Lq:((prog.stops== []):Bool)=true:=by kernel_rfl
theorem Lr:((Rows.topLaterUptoRow.knobs== []):Bool)=true:=by kernel_rfl
theorem Ls:((prog.stopKnobs== []):Bool)=true:=by kernel_rfl
theorem Lt:((Rows.topLaterUptoRow.inPlace==prog.inPlace 3):Bool)=true:=by kernel_rfl
theorem Gb:((Rows.topLaterUptoRow.unfollowed==prog.unfollowed 3):Bool)=true:=by kernel_rfl
theorem Gc:((Rows.topLaterUptoRow.recurses==prog.recurses 3):Bool)=true:=by kernel_rfl
theorem Gd:((Rows.topLaterUptoRow.named==prog.varsNamed 3):Bool)=true:=by kernel_rfl
theorem Ge:((Rows.topLaterUptoRow.maps==(f3.params.toList++(Rows.OpenSpec.upto Rows.topLaterSpec).bare.plain.varTypes prog).any (prog.mapsRec ·)):Bool)=true:=by kernel_rfl
theorem Gf:((Rows.topLaterUptoRow.ifaces==(f3.params.toList++(Rows.OpenSpec.upto Rows.topLaterSpec).bare.plain.varTypes prog).any (prog.ifacesRec ·)):Bool)=true:=by kernel_rfl
theorem Gg:((Rows.topLaterUptoRow.mapsOut==prog.mapsAmong f3.resultTypes.toList):Bool)=true:=by kernel_rfl
theorem Gh:((Rows.topLaterUptoRow.loops==(f3.params.toList++(Rows.OpenSpec.upto Rows.topLaterSpec).bare.plain.varTypes prog).any (prog.loopsFrom ·)):Bool)=true:=by kernel_rfl
theorem Gi:((Rows.topLaterUptoRow.wideKeys==(f3.params.toList++(Rows.OpenSpec.upto Rows.topLaterSpec).bare.plain.varTypes prog++f3.resultTypes.toList).any (prog.wideKeysFrom ·)):Bool)=true:=by kernel_rfl
theorem Gj:((Rows.OpenSpec.upto Rows.topLaterSpec).bare.vars.all (prog.varReadable ·):Bool)=true:=by kernel_rfl
theorem Gk:(f3.resultTypes.all (fun t=>prog.readableRec t&&decide (t<prog.types.size)):Bool)=true:=by kernel_rfl
theorem Gm:((Rows.topLaterUptoRow.ifacesOut==f3.resultTypes.toList.any (prog.ifacesRec ·)):Bool)=true:=by kernel_rfl
theorem Gn:((Rows.topLaterUptoRow.loopsOut==f3.resultTypes.toList.any (prog.loopsFrom ·)):Bool)=true:=by kernel_rfl
theorem Gp:((Rows.topLaterUptoRow.plainKeys==prog.plainKeys):Bool)=true:=by kernel_rfl
theorem Gq:(Rows.topLaterUptoRow.shortTexts.isNone:Bool)=true:=by kernel_rfl
theorem Gr:(prog.stopsHeard:Bool)=true:=by kernel_rfl
theorem Gs:(prog.mayEnter:Bool)=true:=by kernel_rfl
theorem Gt:((Rows.topLaterUptoRow.lifted==prog.liftsFinal):Bool)=true:=by kernel_rfl
theorem Gu:((prog.make==some Rows.topLaterUptoRow.make):Bool)=true:=by kernel_rfl
theorem Gv:((Rows.topLaterUptoRow.kinds==(if Rows.topLaterUptoRow.domain.isEmpty then []else f3.params.toList.map fun t=>match prog.underlying t with|some (.int k)=>some k|_=>none)):Bool)=true:=by kernel_rfl
theorem Gw:((Rows.topLaterUptoRow.pinned==Rows.topLaterUptoRow.pinnedBy):Bool)=true:=by kernel_rfl
theorem Gx:((Rows.topLaterUptoRow.veiled==(f3.params.toList++(Rows.OpenSpec.upto Rows.topLaterSpec).bare.plain.varTypes prog++f3.resultTypes.toList).any (prog.veiledRec ·)):Bool)=true:=by kernel_rfl
theorem Gy:(Rows.topLaterUptoRow.veiledFits prog f3.params.toList (f3.params.toList++(Rows.OpenSpec.upto Rows.topLaterSpec).bare.plain.varTypes prog++f3.resultTypes.toList):Bool)=true:=by kernel_rfl
theorem aS{a b:Bool}(h:a=true)(k:b=true):(a&&b)=true:=by rw[h,k];rfl
theorem vB:joinedFacts prog 3 f3 (Rows.OpenSpec.upto Rows.topLaterSpec).bare Rows.topLaterUptoRow=true:=(aS (aS (aS (aS (aS (aS (aS (aS (aS (aS (aS (aS (aS (aS (aS (aS (aS (aS (aS (aS (aS (aS (aS (aS (aS (aS (aS (aS (aS (aS (aS Lj Lk) Ll) Lm) Ln) Lp) Lq) Lr) Ls) Lt) Gb) Gc) Gd) Ge) Gf) Gg) Gh) Gi) Gj) Gk) Gm) Gn) Gp) Gq) Gr) Gs) Gt) Gu) Gv) Gw) Gx) Gy)
end Go.Proofs.YtomgpelfmgkknaaGreatDoor
