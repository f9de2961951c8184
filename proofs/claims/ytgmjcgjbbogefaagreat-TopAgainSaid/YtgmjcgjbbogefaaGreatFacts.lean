/- The closed facts of the row, one by one. (printed by facts.py) -/
import Derived.Test.YtgmjcgjbbogefaaGreatFacts0
namespace Go.Proofs.YtgmjcgjbbogefaaGreat
set_option linter.unusedVariables false
set_option maxRecDepth 100000
theorem and_both {a b : Bool} (h : a = true) (k : b = true) : (a && b) = true := by rw [h, k]; rfl
theorem facts_join : joinedFacts Tryz.prog 3 Tryz.f3 Rows.topAgainSpec Rows.topAgainRow = true := (and_both (and_both (and_both (and_both (and_both (and_both (and_both (and_both (and_both (and_both (and_both (and_both (and_both (and_both (and_both (and_both (and_both (and_both (and_both (and_both (and_both (and_both (and_both (and_both (and_both (and_both (and_both (and_both (and_both (and_both (and_both fact_0 fact_1) fact_2) fact_3) fact_4) fact_5) fact_6) fact_7) fact_8) fact_9) fact_10) fact_11) fact_12) fact_13) fact_14) fact_15) fact_16) fact_17) fact_18) fact_19) fact_20) fact_21) fact_22) fact_23) fact_24) fact_25) fact_26) fact_27) fact_28) fact_29) fact_30) fact_31)
end Go.Proofs.YtgmjcgjbbogefaaGreat
