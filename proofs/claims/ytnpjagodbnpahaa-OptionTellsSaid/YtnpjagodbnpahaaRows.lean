/-
  No cell of these rows narrows 'for every input' (looked for: loops, veiled, ifaces, maps, wideKeys, modest, calm, conditions, laid).
  DERIVED. THE GIVEN ROWS OF THIS SEAT. 5 by the template 'for every input the law returns true; each argument reads behind the call as it read before'; 0 by the template 'total and deterministic' (their statements: YtnpjagodbnpahaaTotals.lean).
  GIVEN WITH THE SEED: the statements are not yours to turn. If you find one false, say at which input.
  Laid BY PROGRAM, IN A SANDBOX (cutbox-rows.mjs): the forced cells as the released guide's own fill.sh prints them over the translation e12da31ebe856cb4… (all of the seat's roots in one cut). By AI agents, Wed Nov 11 2026. No macro, syntax, notation, axiom, sorry.
-/
import Derived.Test.YtnpjagodbnpahaaChecked
import GoSem.Claim
import GoSem.ClaimJoined
import GoSem.ClaimMapViews
import Derived.JoinedTies
import Derived.KernelRfl
namespace Go.Proofs.Ytnpjagodbnpahaa
/- THE CELL 'sum', in the pinned program and in every row, IS THE sha256 OF THE DUMP (.gsa) THAT YtnpjagodbnpahaaProg.lean LOADS. Nothing in Lean hashes anything: it is a label: what it is worth is what the hold of that sum in a sandbox is worth. -/
noncomputable def Try.pinned : Pinned := { name := "ytnpjagodbnpahaa", sum := "e12da31ebe856cb4a3af1492d7ed4e31fb5a833541b5413033d1683ec2543d29", checked := Try.checked }
namespace Rows
def none {H : Type} : Left H := { results := [], args := [] }

/-- 'greenbeltlaw31.OptionUses': WHATEVER THE INPUT: true; the input reads as it did. -/
def optionUsesSpec : ChangeSpec := { name := "optionUses", fn := fun _ => fun
  | [d1, d2] => { results := [.lit (.bool true)], args := [d1, d2] }
  | _ => none }
def optionUsesRow : OpenClaim := { program := "ytnpjagodbnpahaa", sum := "e12da31ebe856cb4a3af1492d7ed4e31fb5a833541b5413033d1683ec2543d29", func := "greenbelt/greenbeltlaw31.OptionUses", spec := "optionUses", apart := false }
def OptionUsesSaid : Prop := optionUsesRow.holds Try.pinned (OpenSpec.ofChange optionUsesSpec)

/-- ITS FALSE NEIGHBOUR: 'it returns false'. Refute it at one input. -/
def optionUsesWrong : ChangeSpec := { name := "optionUses", fn := fun _ => fun
  | [d1, d2] => { results := [.lit (.bool false)], args := [d1, d2] }
  | _ => none }
def OptionUsesWrongFalsely : Prop := optionUsesRow.holds Try.pinned (OpenSpec.ofChange optionUsesWrong)

/-- 'greenbeltlaw31.OptionSplits': WHATEVER THE INPUT: true; the input reads as it did. -/
def optionSplitsSpec : ChangeSpec := { name := "optionSplits", fn := fun _ => fun
  | [d1, d2, d3] => { results := [.lit (.bool true)], args := [d1, d2, d3] }
  | _ => none }
def optionSplitsRow : OpenClaim := { program := "ytnpjagodbnpahaa", sum := "e12da31ebe856cb4a3af1492d7ed4e31fb5a833541b5413033d1683ec2543d29", func := "greenbelt/greenbeltlaw31.OptionSplits", spec := "optionSplits", apart := false }
def OptionSplitsSaid : Prop := optionSplitsRow.holds Try.pinned (OpenSpec.ofChange optionSplitsSpec)

/-- ITS FALSE NEIGHBOUR: 'it returns false'. Refute it at one input. -/
def optionSplitsWrong : ChangeSpec := { name := "optionSplits", fn := fun _ => fun
  | [d1, d2, d3] => { results := [.lit (.bool false)], args := [d1, d2, d3] }
  | _ => none }
def OptionSplitsWrongFalsely : Prop := optionSplitsRow.holds Try.pinned (OpenSpec.ofChange optionSplitsWrong)

/-- 'greenbeltlaw31.OptionPeaks': WHATEVER THE INPUT: true; the input reads as it did. -/
def optionPeaksSpec : ChangeSpec := { name := "optionPeaks", fn := fun _ => fun
  | [d1, d2] => { results := [.lit (.bool true)], args := [d1, d2] }
  | _ => none }
def optionPeaksRow : OpenClaim := { program := "ytnpjagodbnpahaa", sum := "e12da31ebe856cb4a3af1492d7ed4e31fb5a833541b5413033d1683ec2543d29", func := "greenbelt/greenbeltlaw31.OptionPeaks", spec := "optionPeaks", apart := false }
def OptionPeaksSaid : Prop := optionPeaksRow.holds Try.pinned (OpenSpec.ofChange optionPeaksSpec)

/-- ITS FALSE NEIGHBOUR: 'it returns false'. Refute it at one input. -/
def optionPeaksWrong : ChangeSpec := { name := "optionPeaks", fn := fun _ => fun
  | [d1, d2] => { results := [.lit (.bool false)], args := [d1, d2] }
  | _ => none }
def OptionPeaksWrongFalsely : Prop := optionPeaksRow.holds Try.pinned (OpenSpec.ofChange optionPeaksWrong)

/-- 'greenbeltlaw31.OptionTells': WHATEVER THE INPUT: true; the input reads as it did. -/
def optionTellsSpec : ChangeSpec := { name := "optionTells", fn := fun _ => fun
  | [d1, d2, d3, d4, d5] => { results := [.lit (.bool true)], args := [d1, d2, d3, d4, d5] }
  | _ => none }
def optionTellsRow : OpenClaim := { program := "ytnpjagodbnpahaa", sum := "e12da31ebe856cb4a3af1492d7ed4e31fb5a833541b5413033d1683ec2543d29", func := "greenbelt/greenbeltlaw31.OptionTells", spec := "optionTells", apart := false }
def OptionTellsSaid : Prop := optionTellsRow.holds Try.pinned (OpenSpec.ofChange optionTellsSpec)

/-- ITS FALSE NEIGHBOUR: 'it returns false'. Refute it at one input. -/
def optionTellsWrong : ChangeSpec := { name := "optionTells", fn := fun _ => fun
  | [d1, d2, d3, d4, d5] => { results := [.lit (.bool false)], args := [d1, d2, d3, d4, d5] }
  | _ => none }
def OptionTellsWrongFalsely : Prop := optionTellsRow.holds Try.pinned (OpenSpec.ofChange optionTellsWrong)

/-- 'greenbeltlaw31.OptionEnds': WHATEVER THE INPUT: true; the input reads as it did. -/
def optionEndsSpec : ChangeSpec := { name := "optionEnds", fn := fun _ => fun
  | [d1, d2, d3] => { results := [.lit (.bool true)], args := [d1, d2, d3] }
  | _ => none }
def optionEndsRow : OpenClaim := { program := "ytnpjagodbnpahaa", sum := "e12da31ebe856cb4a3af1492d7ed4e31fb5a833541b5413033d1683ec2543d29", func := "greenbelt/greenbeltlaw31.OptionEnds", spec := "optionEnds", apart := false }
def OptionEndsSaid : Prop := optionEndsRow.holds Try.pinned (OpenSpec.ofChange optionEndsSpec)

/-- ITS FALSE NEIGHBOUR: 'it returns false'. Refute it at one input. -/
def optionEndsWrong : ChangeSpec := { name := "optionEnds", fn := fun _ => fun
  | [d1, d2, d3] => { results := [.lit (.bool false)], args := [d1, d2, d3] }
  | _ => none }
def OptionEndsWrongFalsely : Prop := optionEndsRow.holds Try.pinned (OpenSpec.ofChange optionEndsWrong)

/- THE SECOND FORM. 'bulk': how many values and letters a reading holds, each counted each time it is reached (what is shared counts as often as it is met; a slice's spare places count too). A statement '..UptoSaid' is the law's where the arguments, and the package variables that the reading takes, are together of bulk at most 1048576: NARROWER than '..Said'. Prove '..Said' where nothing that the law and all that it calls make is longer than what came in: it says more and counts as full. Else prove '..UptoSaid'. A law counts once. -/
mutual
def uptoBulk {H : Type} : DataW H → Nat
  | .lit (.string bytes) => bytes.length + 1
  | .lit _ => 1
  | .nil => 1
  | .ptr d => uptoBulk d + 1
  | .slice elems spare => uptoBulkAll elems + uptoBulkAll spare + 1
  | .agg parts => uptoBulkAll parts + 1
  | .iface _ d => uptoBulk d + 1
  | .map entries => uptoBulkEntries entries + 1
  | .held _ => 1
def uptoBulkAll {H : Type} : List (DataW H) → Nat
  | [] => 0
  | d :: r => uptoBulk d + uptoBulkAll r
def uptoBulkEntries {H : Type} : List (Lit × DataW H) → Nat
  | [] => 0
  | x :: r => uptoBulkEntry x + uptoBulkEntries r
def uptoBulkEntry {H : Type} : Lit × DataW H → Nat
  | (.string bytes, d) => bytes.length + uptoBulk d + 1
  | (_, d) => uptoBulk d + 1
 end
def uptoSmall : (H : Type) → List (DataW H) → Bool := fun _ ds => decide (uptoBulkAll ds ≤ 1048576)
def OpenSpec.upto (s : _root_.Go.ChangeSpec) : _root_.Go.OpenSpec := { _root_.Go.OpenSpec.ofChange s with cond := some uptoSmall }

/-- 'greenbeltlaw31.OptionUses', WHERE WHAT IT READS IS OF BULK AT MOST 1048576: true; the input reads as it did. -/
def optionUsesUptoRow : OpenClaim := { program := "ytnpjagodbnpahaa", sum := "e12da31ebe856cb4a3af1492d7ed4e31fb5a833541b5413033d1683ec2543d29", func := "greenbelt/greenbeltlaw31.OptionUses", spec := "optionUses", apart := false, narrowed := true }
def OptionUsesUptoSaid : Prop := optionUsesUptoRow.holds Try.pinned (OpenSpec.upto optionUsesSpec)

/-- 'greenbeltlaw31.OptionSplits', WHERE WHAT IT READS IS OF BULK AT MOST 1048576: true; the input reads as it did. -/
def optionSplitsUptoRow : OpenClaim := { program := "ytnpjagodbnpahaa", sum := "e12da31ebe856cb4a3af1492d7ed4e31fb5a833541b5413033d1683ec2543d29", func := "greenbelt/greenbeltlaw31.OptionSplits", spec := "optionSplits", apart := false, narrowed := true }
def OptionSplitsUptoSaid : Prop := optionSplitsUptoRow.holds Try.pinned (OpenSpec.upto optionSplitsSpec)

/-- 'greenbeltlaw31.OptionPeaks', WHERE WHAT IT READS IS OF BULK AT MOST 1048576: true; the input reads as it did. -/
def optionPeaksUptoRow : OpenClaim := { program := "ytnpjagodbnpahaa", sum := "e12da31ebe856cb4a3af1492d7ed4e31fb5a833541b5413033d1683ec2543d29", func := "greenbelt/greenbeltlaw31.OptionPeaks", spec := "optionPeaks", apart := false, narrowed := true }
def OptionPeaksUptoSaid : Prop := optionPeaksUptoRow.holds Try.pinned (OpenSpec.upto optionPeaksSpec)

/-- 'greenbeltlaw31.OptionTells', WHERE WHAT IT READS IS OF BULK AT MOST 1048576: true; the input reads as it did. -/
def optionTellsUptoRow : OpenClaim := { program := "ytnpjagodbnpahaa", sum := "e12da31ebe856cb4a3af1492d7ed4e31fb5a833541b5413033d1683ec2543d29", func := "greenbelt/greenbeltlaw31.OptionTells", spec := "optionTells", apart := false, narrowed := true }
def OptionTellsUptoSaid : Prop := optionTellsUptoRow.holds Try.pinned (OpenSpec.upto optionTellsSpec)

/-- 'greenbeltlaw31.OptionEnds', WHERE WHAT IT READS IS OF BULK AT MOST 1048576: true; the input reads as it did. -/
def optionEndsUptoRow : OpenClaim := { program := "ytnpjagodbnpahaa", sum := "e12da31ebe856cb4a3af1492d7ed4e31fb5a833541b5413033d1683ec2543d29", func := "greenbelt/greenbeltlaw31.OptionEnds", spec := "optionEnds", apart := false, narrowed := true }
def OptionEndsUptoSaid : Prop := optionEndsUptoRow.holds Try.pinned (OpenSpec.upto optionEndsSpec)

end Rows
end Go.Proofs.Ytnpjagodbnpahaa
