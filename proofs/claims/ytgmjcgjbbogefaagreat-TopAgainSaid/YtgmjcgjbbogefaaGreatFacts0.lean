/- The closed facts of the row, one by one. (printed by facts.py) -/
import Derived.Test.YtgmjcgjbbogefaaGreatRows
import Derived.JoinedOf
import Derived.KernelRfl
namespace Go.Proofs.YtgmjcgjbbogefaaGreat
set_option linter.unusedVariables false
set_option maxRecDepth 100000
theorem fact_0 : (Rows.topAgainRow.wf (OpenSpec.ofChange Rows.topAgainSpec) : Bool) = true := by kernel_rfl
theorem fact_1 : (laidOutB Tryz.prog : Bool) = true := by kernel_rfl
theorem fact_2 : (mapsRowed Tryz.prog : Bool) = true := by kernel_rfl
theorem fact_3 : (Tryz.f3.params.all (Tryz.prog.readableRec ·) : Bool) = true := by kernel_rfl
theorem fact_4 : (namedTie Tryz.prog Rows.topAgainRow.named Rows.topAgainSpec.vars : Bool) = true := by kernel_rfl
theorem fact_5 : ((Rows.topAgainRow.stops == []) : Bool) = true := by kernel_rfl
theorem fact_6 : ((Tryz.prog.stops == []) : Bool) = true := by kernel_rfl
theorem fact_7 : ((Rows.topAgainRow.knobs == []) : Bool) = true := by kernel_rfl
theorem fact_8 : ((Tryz.prog.stopKnobs == []) : Bool) = true := by kernel_rfl
theorem fact_9 : ((Rows.topAgainRow.inPlace == Tryz.prog.inPlace 3) : Bool) = true := by kernel_rfl
theorem fact_10 : ((Rows.topAgainRow.unfollowed == Tryz.prog.unfollowed 3) : Bool) = true := by kernel_rfl
theorem fact_11 : ((Rows.topAgainRow.recurses == Tryz.prog.recurses 3) : Bool) = true := by kernel_rfl
theorem fact_12 : ((Rows.topAgainRow.named == Tryz.prog.varsNamed 3) : Bool) = true := by kernel_rfl
theorem fact_13 : ((Rows.topAgainRow.maps == (Tryz.f3.params.toList ++ Rows.topAgainSpec.plain.varTypes Tryz.prog).any (Tryz.prog.mapsRec ·)) : Bool) = true := by kernel_rfl
theorem fact_14 : ((Rows.topAgainRow.ifaces == (Tryz.f3.params.toList ++ Rows.topAgainSpec.plain.varTypes Tryz.prog).any (Tryz.prog.ifacesRec ·)) : Bool) = true := by kernel_rfl
theorem fact_15 : ((Rows.topAgainRow.mapsOut == Tryz.prog.mapsAmong Tryz.f3.resultTypes.toList) : Bool) = true := by kernel_rfl
theorem fact_16 : ((Rows.topAgainRow.loops == (Tryz.f3.params.toList ++ Rows.topAgainSpec.plain.varTypes Tryz.prog).any (Tryz.prog.loopsFrom ·)) : Bool) = true := by kernel_rfl
theorem fact_17 : ((Rows.topAgainRow.wideKeys == (Tryz.f3.params.toList ++ Rows.topAgainSpec.plain.varTypes Tryz.prog ++ Tryz.f3.resultTypes.toList).any (Tryz.prog.wideKeysFrom ·)) : Bool) = true := by kernel_rfl
theorem fact_18 : (Rows.topAgainSpec.vars.all (Tryz.prog.varReadable ·) : Bool) = true := by kernel_rfl
theorem fact_19 : (Tryz.f3.resultTypes.all (fun t => Tryz.prog.readableRec t && decide (t < Tryz.prog.types.size)) : Bool) = true := by kernel_rfl
theorem fact_20 : ((Rows.topAgainRow.ifacesOut == Tryz.f3.resultTypes.toList.any (Tryz.prog.ifacesRec ·)) : Bool) = true := by kernel_rfl
theorem fact_21 : ((Rows.topAgainRow.loopsOut == Tryz.f3.resultTypes.toList.any (Tryz.prog.loopsFrom ·)) : Bool) = true := by kernel_rfl
theorem fact_22 : ((Rows.topAgainRow.plainKeys == Tryz.prog.plainKeys) : Bool) = true := by kernel_rfl
theorem fact_23 : (Rows.topAgainRow.shortTexts.isNone : Bool) = true := by kernel_rfl
theorem fact_24 : (Tryz.prog.stopsHeard : Bool) = true := by kernel_rfl
theorem fact_25 : (Tryz.prog.mayEnter : Bool) = true := by kernel_rfl
theorem fact_26 : ((Rows.topAgainRow.lifted == Tryz.prog.liftsFinal) : Bool) = true := by kernel_rfl
theorem fact_27 : ((Tryz.prog.make == some Rows.topAgainRow.make) : Bool) = true := by kernel_rfl
theorem fact_28 : ((Rows.topAgainRow.kinds == (if Rows.topAgainRow.domain.isEmpty then [] else Tryz.f3.params.toList.map fun t => match Tryz.prog.underlying t with | some (.int k) => some k | _ => none)) : Bool) = true := by kernel_rfl
theorem fact_29 : ((Rows.topAgainRow.pinned == Rows.topAgainRow.pinnedBy) : Bool) = true := by kernel_rfl
theorem fact_30 : ((Rows.topAgainRow.veiled == (Tryz.f3.params.toList ++ Rows.topAgainSpec.plain.varTypes Tryz.prog ++ Tryz.f3.resultTypes.toList).any (Tryz.prog.veiledRec ·)) : Bool) = true := by kernel_rfl
theorem fact_31 : (Rows.topAgainRow.veiledFits Tryz.prog Tryz.f3.params.toList (Tryz.f3.params.toList ++ Rows.topAgainSpec.plain.varTypes Tryz.prog ++ Tryz.f3.resultTypes.toList) : Bool) = true := by kernel_rfl
end Go.Proofs.YtgmjcgjbbogefaaGreat
