/-
  No cell of these rows narrows 'for every input' (looked for: loops, veiled, ifaces, maps, wideKeys, modest, calm, conditions, laid).
  DERIVED. THE GIVEN ROWS OF THIS SEAT. 5 by the template 'for every input the law returns true; each argument reads behind the call as it read before'; 0 by the template 'total and deterministic' (their statements: YtbafcfbchbjgfaaTotals.lean).
  GIVEN WITH THE SEED: the statements are not yours to turn. If you find one false, say at which input.
  Laid BY PROGRAM, IN A SANDBOX (cutbox-rows.mjs): the forced cells as the released guide's own fill.sh prints them over the translation 8b1a5099c634d77f… (all of the seat's roots in one cut). By AI agents, Wed Nov 11 2026. No macro, syntax, notation, axiom, sorry.
-/
import Derived.Test.YtbafcfbchbjgfaaChecked
import GoSem.Claim
import GoSem.ClaimJoined
import GoSem.ClaimMapViews
import Derived.JoinedTies
import Derived.KernelRfl
namespace Go.Proofs.Ytbafcfbchbjgfaa
/- THE CELL 'sum', in the pinned program and in every row, IS THE sha256 OF THE DUMP (.gsa) THAT YtbafcfbchbjgfaaProg.lean LOADS. Nothing in Lean hashes anything: it is a label: what it is worth is what the hold of that sum in a sandbox is worth. -/
noncomputable def Try.pinned : Pinned := { name := "ytbafcfbchbjgfaa", sum := "8b1a5099c634d77fd4879065efb5cbf8968bc5ea30f74125edc598b6d32cb40f", checked := Try.checked }
namespace Rows
def none {H : Type} : Left H := { results := [], args := [] }

/-- 'greenbeltlaw38.FactorTells': WHATEVER THE INPUT: true; the input reads as it did. -/
def factorTellsSpec : ChangeSpec := { name := "factorTells", fn := fun _ => fun
  | [d1, d2, d3, d4, d5, d6] => { results := [.lit (.bool true)], args := [d1, d2, d3, d4, d5, d6] }
  | _ => none }
def factorTellsRow : OpenClaim := { program := "ytbafcfbchbjgfaa", sum := "8b1a5099c634d77fd4879065efb5cbf8968bc5ea30f74125edc598b6d32cb40f", func := "greenbelt/greenbeltlaw38.FactorTells", spec := "factorTells", apart := false }
def FactorTellsSaid : Prop := factorTellsRow.holds Try.pinned (OpenSpec.ofChange factorTellsSpec)

/-- ITS FALSE NEIGHBOUR: 'it returns false'. Refute it at one input. -/
def factorTellsWrong : ChangeSpec := { name := "factorTells", fn := fun _ => fun
  | [d1, d2, d3, d4, d5, d6] => { results := [.lit (.bool false)], args := [d1, d2, d3, d4, d5, d6] }
  | _ => none }
def FactorTellsWrongFalsely : Prop := factorTellsRow.holds Try.pinned (OpenSpec.ofChange factorTellsWrong)

/-- 'greenbeltlaw38.FactorCloses': WHATEVER THE INPUT: true; the input reads as it did. -/
def factorClosesSpec : ChangeSpec := { name := "factorCloses", fn := fun _ => fun
  | [d] => { results := [.lit (.bool true)], args := [d] }
  | _ => none }
def factorClosesRow : OpenClaim := { program := "ytbafcfbchbjgfaa", sum := "8b1a5099c634d77fd4879065efb5cbf8968bc5ea30f74125edc598b6d32cb40f", func := "greenbelt/greenbeltlaw38.FactorCloses", spec := "factorCloses", apart := false }
def FactorClosesSaid : Prop := factorClosesRow.holds Try.pinned (OpenSpec.ofChange factorClosesSpec)

/-- ITS FALSE NEIGHBOUR: 'it returns false'. Refute it at one input. -/
def factorClosesWrong : ChangeSpec := { name := "factorCloses", fn := fun _ => fun
  | [d] => { results := [.lit (.bool false)], args := [d] }
  | _ => none }
def FactorClosesWrongFalsely : Prop := factorClosesRow.holds Try.pinned (OpenSpec.ofChange factorClosesWrong)

/-- 'greenbeltlaw38.FactorCircles': WHATEVER THE INPUT: true; the input reads as it did. -/
def factorCirclesSpec : ChangeSpec := { name := "factorCircles", fn := fun _ => fun
  | [d] => { results := [.lit (.bool true)], args := [d] }
  | _ => none }
def factorCirclesRow : OpenClaim := { program := "ytbafcfbchbjgfaa", sum := "8b1a5099c634d77fd4879065efb5cbf8968bc5ea30f74125edc598b6d32cb40f", func := "greenbelt/greenbeltlaw38.FactorCircles", spec := "factorCircles", apart := false }
def FactorCirclesSaid : Prop := factorCirclesRow.holds Try.pinned (OpenSpec.ofChange factorCirclesSpec)

/-- ITS FALSE NEIGHBOUR: 'it returns false'. Refute it at one input. -/
def factorCirclesWrong : ChangeSpec := { name := "factorCircles", fn := fun _ => fun
  | [d] => { results := [.lit (.bool false)], args := [d] }
  | _ => none }
def FactorCirclesWrongFalsely : Prop := factorCirclesRow.holds Try.pinned (OpenSpec.ofChange factorCirclesWrong)

/-- 'greenbeltlaw38.FactorOrders': WHATEVER THE INPUT: true; the input reads as it did. -/
def factorOrdersSpec : ChangeSpec := { name := "factorOrders", fn := fun _ => fun
  | [d1, d2, d3, d4] => { results := [.lit (.bool true)], args := [d1, d2, d3, d4] }
  | _ => none }
def factorOrdersRow : OpenClaim := { program := "ytbafcfbchbjgfaa", sum := "8b1a5099c634d77fd4879065efb5cbf8968bc5ea30f74125edc598b6d32cb40f", func := "greenbelt/greenbeltlaw38.FactorOrders", spec := "factorOrders", apart := false }
def FactorOrdersSaid : Prop := factorOrdersRow.holds Try.pinned (OpenSpec.ofChange factorOrdersSpec)

/-- ITS FALSE NEIGHBOUR: 'it returns false'. Refute it at one input. -/
def factorOrdersWrong : ChangeSpec := { name := "factorOrders", fn := fun _ => fun
  | [d1, d2, d3, d4] => { results := [.lit (.bool false)], args := [d1, d2, d3, d4] }
  | _ => none }
def FactorOrdersWrongFalsely : Prop := factorOrdersRow.holds Try.pinned (OpenSpec.ofChange factorOrdersWrong)

/-- 'greenbeltlaw38.FactorJoins': WHATEVER THE INPUT: true; the input reads as it did. -/
def factorJoinsSpec : ChangeSpec := { name := "factorJoins", fn := fun _ => fun
  | [d1, d2, d3, d4] => { results := [.lit (.bool true)], args := [d1, d2, d3, d4] }
  | _ => none }
def factorJoinsRow : OpenClaim := { program := "ytbafcfbchbjgfaa", sum := "8b1a5099c634d77fd4879065efb5cbf8968bc5ea30f74125edc598b6d32cb40f", func := "greenbelt/greenbeltlaw38.FactorJoins", spec := "factorJoins", apart := false }
def FactorJoinsSaid : Prop := factorJoinsRow.holds Try.pinned (OpenSpec.ofChange factorJoinsSpec)

/-- ITS FALSE NEIGHBOUR: 'it returns false'. Refute it at one input. -/
def factorJoinsWrong : ChangeSpec := { name := "factorJoins", fn := fun _ => fun
  | [d1, d2, d3, d4] => { results := [.lit (.bool false)], args := [d1, d2, d3, d4] }
  | _ => none }
def FactorJoinsWrongFalsely : Prop := factorJoinsRow.holds Try.pinned (OpenSpec.ofChange factorJoinsWrong)

/- THE SECOND FORM. 'bulk': how many values and letters a reading holds, each counted each time it is reached (what is shared counts as often as it is met; a slice's spare places count too). A statement '..UptoSaid' is the law's where the arguments, and the package variables that the reading takes, are together of bulk at most 1048576: NARROWER than '..Said'. Prove '..Said' where nothing that the law and all that it calls make is longer than what came in: it says more and counts as full. Else prove '..UptoSaid'. A law counts once. -/
mutual
def uptoBulk {H : Type} : DataW H → Nat
  | .lit (.string bytes) => bytes.length + 1
  | .lit _ => 1
  | .nil => 1
  | .ptr d => uptoBulk d + 1
  | .slice elems spare => uptoBulkAll elems + uptoBulkAll spare + 1
  | .agg parts => uptoBulkAll parts + 1
  | .iface _ d => uptoBulk d + 1
  | .map entries => uptoBulkEntries entries + 1
  | .held _ => 1
def uptoBulkAll {H : Type} : List (DataW H) → Nat
  | [] => 0
  | d :: r => uptoBulk d + uptoBulkAll r
def uptoBulkEntries {H : Type} : List (Lit × DataW H) → Nat
  | [] => 0
  | x :: r => uptoBulkEntry x + uptoBulkEntries r
def uptoBulkEntry {H : Type} : Lit × DataW H → Nat
  | (.string bytes, d) => bytes.length + uptoBulk d + 1
  | (_, d) => uptoBulk d + 1
 end
def uptoSmall : (H : Type) → List (DataW H) → Bool := fun _ ds => decide (uptoBulkAll ds ≤ 1048576)
def OpenSpec.upto (s : _root_.Go.ChangeSpec) : _root_.Go.OpenSpec := { _root_.Go.OpenSpec.ofChange s with cond := some uptoSmall }

/-- 'greenbeltlaw38.FactorTells', WHERE WHAT IT READS IS OF BULK AT MOST 1048576: true; the input reads as it did. -/
def factorTellsUptoRow : OpenClaim := { program := "ytbafcfbchbjgfaa", sum := "8b1a5099c634d77fd4879065efb5cbf8968bc5ea30f74125edc598b6d32cb40f", func := "greenbelt/greenbeltlaw38.FactorTells", spec := "factorTells", apart := false, narrowed := true }
def FactorTellsUptoSaid : Prop := factorTellsUptoRow.holds Try.pinned (OpenSpec.upto factorTellsSpec)

/-- 'greenbeltlaw38.FactorCloses', WHERE WHAT IT READS IS OF BULK AT MOST 1048576: true; the input reads as it did. -/
def factorClosesUptoRow : OpenClaim := { program := "ytbafcfbchbjgfaa", sum := "8b1a5099c634d77fd4879065efb5cbf8968bc5ea30f74125edc598b6d32cb40f", func := "greenbelt/greenbeltlaw38.FactorCloses", spec := "factorCloses", apart := false, narrowed := true }
def FactorClosesUptoSaid : Prop := factorClosesUptoRow.holds Try.pinned (OpenSpec.upto factorClosesSpec)

/-- 'greenbeltlaw38.FactorCircles', WHERE WHAT IT READS IS OF BULK AT MOST 1048576: true; the input reads as it did. -/
def factorCirclesUptoRow : OpenClaim := { program := "ytbafcfbchbjgfaa", sum := "8b1a5099c634d77fd4879065efb5cbf8968bc5ea30f74125edc598b6d32cb40f", func := "greenbelt/greenbeltlaw38.FactorCircles", spec := "factorCircles", apart := false, narrowed := true }
def FactorCirclesUptoSaid : Prop := factorCirclesUptoRow.holds Try.pinned (OpenSpec.upto factorCirclesSpec)

/-- 'greenbeltlaw38.FactorOrders', WHERE WHAT IT READS IS OF BULK AT MOST 1048576: true; the input reads as it did. -/
def factorOrdersUptoRow : OpenClaim := { program := "ytbafcfbchbjgfaa", sum := "8b1a5099c634d77fd4879065efb5cbf8968bc5ea30f74125edc598b6d32cb40f", func := "greenbelt/greenbeltlaw38.FactorOrders", spec := "factorOrders", apart := false, narrowed := true }
def FactorOrdersUptoSaid : Prop := factorOrdersUptoRow.holds Try.pinned (OpenSpec.upto factorOrdersSpec)

/-- 'greenbeltlaw38.FactorJoins', WHERE WHAT IT READS IS OF BULK AT MOST 1048576: true; the input reads as it did. -/
def factorJoinsUptoRow : OpenClaim := { program := "ytbafcfbchbjgfaa", sum := "8b1a5099c634d77fd4879065efb5cbf8968bc5ea30f74125edc598b6d32cb40f", func := "greenbelt/greenbeltlaw38.FactorJoins", spec := "factorJoins", apart := false, narrowed := true }
def FactorJoinsUptoSaid : Prop := factorJoinsUptoRow.holds Try.pinned (OpenSpec.upto factorJoinsSpec)

end Rows
end Go.Proofs.Ytbafcfbchbjgfaa
