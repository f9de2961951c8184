/-
  No cell of these rows narrows 'for every input' (looked for: loops, veiled, ifaces, maps, wideKeys, modest, calm, conditions, laid).
  DERIVED. THE GIVEN ROWS OF THIS SEAT. 6 by the template 'for every input the law returns true; each argument reads behind the call as it read before'; 0 by the template 'total and deterministic' (their statements: YtodgohilfbggjaaTotals.lean).
  GIVEN WITH THE SEED: the statements are not yours to turn. If you find one false, say at which input.
  Laid BY PROGRAM, IN A SANDBOX (cutbox-rows.mjs): the forced cells as the released guide's own fill.sh prints them over the translation bc17c3220a1e46c2… (all of the seat's roots in one cut). By AI agents, Wed Nov 11 2026. No macro, syntax, notation, axiom, sorry.
-/
import Derived.Test.YtodgohilfbggjaaChecked
import GoSem.Claim
import GoSem.ClaimJoined
import GoSem.ClaimMapViews
import Derived.JoinedTies
import Derived.KernelRfl
namespace Go.Proofs.Ytodgohilfbggjaa
/- THE CELL 'sum', in the pinned program and in every row, IS THE sha256 OF THE DUMP (.gsa) THAT YtodgohilfbggjaaProg.lean LOADS. Nothing in Lean hashes anything: it is a label: what it is worth is what the hold of that sum in a sandbox is worth. -/
noncomputable def Try.pinned : Pinned := { name := "ytodgohilfbggjaa", sum := "bc17c3220a1e46c206d50d863b827b04ad6c834f0ea1c630a8ee2b350bc304b7", checked := Try.checked }
namespace Rows
def none {H : Type} : Left H := { results := [], args := [] }

/-- 'greenbeltlaw39.PrecedentTells': WHATEVER THE INPUT: true; the input reads as it did. -/
def precedentTellsSpec : ChangeSpec := { name := "precedentTells", fn := fun _ => fun
  | [d1, d2, d3, d4, d5, d6] => { results := [.lit (.bool true)], args := [d1, d2, d3, d4, d5, d6] }
  | _ => none }
def precedentTellsRow : OpenClaim := { program := "ytodgohilfbggjaa", sum := "bc17c3220a1e46c206d50d863b827b04ad6c834f0ea1c630a8ee2b350bc304b7", func := "greenbelt/greenbeltlaw39.PrecedentTells", spec := "precedentTells", unfollowed := true, recurses := true, apart := false }
def PrecedentTellsSaid : Prop := precedentTellsRow.holds Try.pinned (OpenSpec.ofChange precedentTellsSpec)

/-- ITS FALSE NEIGHBOUR: 'it returns false'. Refute it at one input. -/
def precedentTellsWrong : ChangeSpec := { name := "precedentTells", fn := fun _ => fun
  | [d1, d2, d3, d4, d5, d6] => { results := [.lit (.bool false)], args := [d1, d2, d3, d4, d5, d6] }
  | _ => none }
def PrecedentTellsWrongFalsely : Prop := precedentTellsRow.holds Try.pinned (OpenSpec.ofChange precedentTellsWrong)

/-- 'greenbeltlaw39.PrecedentForced': WHATEVER THE INPUT: true; the input reads as it did. -/
def precedentForcedSpec : ChangeSpec := { name := "precedentForced", fn := fun _ => fun
  | [d1, d2, d3] => { results := [.lit (.bool true)], args := [d1, d2, d3] }
  | _ => none }
def precedentForcedRow : OpenClaim := { program := "ytodgohilfbggjaa", sum := "bc17c3220a1e46c206d50d863b827b04ad6c834f0ea1c630a8ee2b350bc304b7", func := "greenbelt/greenbeltlaw39.PrecedentForced", spec := "precedentForced", unfollowed := true, recurses := true, apart := false }
def PrecedentForcedSaid : Prop := precedentForcedRow.holds Try.pinned (OpenSpec.ofChange precedentForcedSpec)

/-- ITS FALSE NEIGHBOUR: 'it returns false'. Refute it at one input. -/
def precedentForcedWrong : ChangeSpec := { name := "precedentForced", fn := fun _ => fun
  | [d1, d2, d3] => { results := [.lit (.bool false)], args := [d1, d2, d3] }
  | _ => none }
def PrecedentForcedWrongFalsely : Prop := precedentForcedRow.holds Try.pinned (OpenSpec.ofChange precedentForcedWrong)

/-- 'greenbeltlaw39.PrecedentAdds': WHATEVER THE INPUT: true; the input reads as it did. -/
def precedentAddsSpec : ChangeSpec := { name := "precedentAdds", fn := fun _ => fun
  | [d1, d2] => { results := [.lit (.bool true)], args := [d1, d2] }
  | _ => none }
def precedentAddsRow : OpenClaim := { program := "ytodgohilfbggjaa", sum := "bc17c3220a1e46c206d50d863b827b04ad6c834f0ea1c630a8ee2b350bc304b7", func := "greenbelt/greenbeltlaw39.PrecedentAdds", spec := "precedentAdds", unfollowed := true, recurses := true, apart := false }
def PrecedentAddsSaid : Prop := precedentAddsRow.holds Try.pinned (OpenSpec.ofChange precedentAddsSpec)

/-- ITS FALSE NEIGHBOUR: 'it returns false'. Refute it at one input. -/
def precedentAddsWrong : ChangeSpec := { name := "precedentAdds", fn := fun _ => fun
  | [d1, d2] => { results := [.lit (.bool false)], args := [d1, d2] }
  | _ => none }
def PrecedentAddsWrongFalsely : Prop := precedentAddsRow.holds Try.pinned (OpenSpec.ofChange precedentAddsWrong)

/-- 'greenbeltlaw39.PrecedentOverrule': WHATEVER THE INPUT: true; the input reads as it did. -/
def precedentOverruleSpec : ChangeSpec := { name := "precedentOverrule", fn := fun _ => fun
  | [d1, d2, d3] => { results := [.lit (.bool true)], args := [d1, d2, d3] }
  | _ => none }
def precedentOverruleRow : OpenClaim := { program := "ytodgohilfbggjaa", sum := "bc17c3220a1e46c206d50d863b827b04ad6c834f0ea1c630a8ee2b350bc304b7", func := "greenbelt/greenbeltlaw39.PrecedentOverrule", spec := "precedentOverrule", unfollowed := true, recurses := true, apart := false }
def PrecedentOverruleSaid : Prop := precedentOverruleRow.holds Try.pinned (OpenSpec.ofChange precedentOverruleSpec)

/-- ITS FALSE NEIGHBOUR: 'it returns false'. Refute it at one input. -/
def precedentOverruleWrong : ChangeSpec := { name := "precedentOverrule", fn := fun _ => fun
  | [d1, d2, d3] => { results := [.lit (.bool false)], args := [d1, d2, d3] }
  | _ => none }
def PrecedentOverruleWrongFalsely : Prop := precedentOverruleRow.holds Try.pinned (OpenSpec.ofChange precedentOverruleWrong)

/-- 'greenbeltlaw39.PrecedentDistinguish': WHATEVER THE INPUT: true; the input reads as it did. -/
def precedentDistinguishSpec : ChangeSpec := { name := "precedentDistinguish", fn := fun _ => fun
  | [d1, d2, d3, d4] => { results := [.lit (.bool true)], args := [d1, d2, d3, d4] }
  | _ => none }
def precedentDistinguishRow : OpenClaim := { program := "ytodgohilfbggjaa", sum := "bc17c3220a1e46c206d50d863b827b04ad6c834f0ea1c630a8ee2b350bc304b7", func := "greenbelt/greenbeltlaw39.PrecedentDistinguish", spec := "precedentDistinguish", unfollowed := true, recurses := true, apart := false }
def PrecedentDistinguishSaid : Prop := precedentDistinguishRow.holds Try.pinned (OpenSpec.ofChange precedentDistinguishSpec)

/-- ITS FALSE NEIGHBOUR: 'it returns false'. Refute it at one input. -/
def precedentDistinguishWrong : ChangeSpec := { name := "precedentDistinguish", fn := fun _ => fun
  | [d1, d2, d3, d4] => { results := [.lit (.bool false)], args := [d1, d2, d3, d4] }
  | _ => none }
def PrecedentDistinguishWrongFalsely : Prop := precedentDistinguishRow.holds Try.pinned (OpenSpec.ofChange precedentDistinguishWrong)

/-- 'greenbeltlaw39.PrecedentStronger': WHATEVER THE INPUT: true; the input reads as it did. -/
def precedentStrongerSpec : ChangeSpec := { name := "precedentStronger", fn := fun _ => fun
  | [d1, d2, d3, d4] => { results := [.lit (.bool true)], args := [d1, d2, d3, d4] }
  | _ => none }
def precedentStrongerRow : OpenClaim := { program := "ytodgohilfbggjaa", sum := "bc17c3220a1e46c206d50d863b827b04ad6c834f0ea1c630a8ee2b350bc304b7", func := "greenbelt/greenbeltlaw39.PrecedentStronger", spec := "precedentStronger", unfollowed := true, recurses := true, apart := false }
def PrecedentStrongerSaid : Prop := precedentStrongerRow.holds Try.pinned (OpenSpec.ofChange precedentStrongerSpec)

/-- ITS FALSE NEIGHBOUR: 'it returns false'. Refute it at one input. -/
def precedentStrongerWrong : ChangeSpec := { name := "precedentStronger", fn := fun _ => fun
  | [d1, d2, d3, d4] => { results := [.lit (.bool false)], args := [d1, d2, d3, d4] }
  | _ => none }
def PrecedentStrongerWrongFalsely : Prop := precedentStrongerRow.holds Try.pinned (OpenSpec.ofChange precedentStrongerWrong)

/- THE SECOND FORM. 'bulk': how many values and letters a reading holds, each counted each time it is reached (what is shared counts as often as it is met; a slice's spare places count too). A statement '..UptoSaid' is the law's where the arguments, and the package variables that the reading takes, are together of bulk at most 1048576: NARROWER than '..Said'. Prove '..Said' where nothing that the law and all that it calls make is longer than what came in: it says more and counts as full. Else prove '..UptoSaid'. A law counts once. -/
mutual
def uptoBulk {H : Type} : DataW H → Nat
  | .lit (.string bytes) => bytes.length + 1
  | .lit _ => 1
  | .nil => 1
  | .ptr d => uptoBulk d + 1
  | .slice elems spare => uptoBulkAll elems + uptoBulkAll spare + 1
  | .agg parts => uptoBulkAll parts + 1
  | .iface _ d => uptoBulk d + 1
  | .map entries => uptoBulkEntries entries + 1
  | .held _ => 1
def uptoBulkAll {H : Type} : List (DataW H) → Nat
  | [] => 0
  | d :: r => uptoBulk d + uptoBulkAll r
def uptoBulkEntries {H : Type} : List (Lit × DataW H) → Nat
  | [] => 0
  | x :: r => uptoBulkEntry x + uptoBulkEntries r
def uptoBulkEntry {H : Type} : Lit × DataW H → Nat
  | (.string bytes, d) => bytes.length + uptoBulk d + 1
  | (_, d) => uptoBulk d + 1
 end
def uptoSmall : (H : Type) → List (DataW H) → Bool := fun _ ds => decide (uptoBulkAll ds ≤ 1048576)
def OpenSpec.upto (s : _root_.Go.ChangeSpec) : _root_.Go.OpenSpec := { _root_.Go.OpenSpec.ofChange s with cond := some uptoSmall }

/-- 'greenbeltlaw39.PrecedentTells', WHERE WHAT IT READS IS OF BULK AT MOST 1048576: true; the input reads as it did. -/
def precedentTellsUptoRow : OpenClaim := { program := "ytodgohilfbggjaa", sum := "bc17c3220a1e46c206d50d863b827b04ad6c834f0ea1c630a8ee2b350bc304b7", func := "greenbelt/greenbeltlaw39.PrecedentTells", spec := "precedentTells", unfollowed := true, recurses := true, apart := false, narrowed := true }
def PrecedentTellsUptoSaid : Prop := precedentTellsUptoRow.holds Try.pinned (OpenSpec.upto precedentTellsSpec)

/-- 'greenbeltlaw39.PrecedentForced', WHERE WHAT IT READS IS OF BULK AT MOST 1048576: true; the input reads as it did. -/
def precedentForcedUptoRow : OpenClaim := { program := "ytodgohilfbggjaa", sum := "bc17c3220a1e46c206d50d863b827b04ad6c834f0ea1c630a8ee2b350bc304b7", func := "greenbelt/greenbeltlaw39.PrecedentForced", spec := "precedentForced", unfollowed := true, recurses := true, apart := false, narrowed := true }
def PrecedentForcedUptoSaid : Prop := precedentForcedUptoRow.holds Try.pinned (OpenSpec.upto precedentForcedSpec)

/-- 'greenbeltlaw39.PrecedentAdds', WHERE WHAT IT READS IS OF BULK AT MOST 1048576: true; the input reads as it did. -/
def precedentAddsUptoRow : OpenClaim := { program := "ytodgohilfbggjaa", sum := "bc17c3220a1e46c206d50d863b827b04ad6c834f0ea1c630a8ee2b350bc304b7", func := "greenbelt/greenbeltlaw39.PrecedentAdds", spec := "precedentAdds", unfollowed := true, recurses := true, apart := false, narrowed := true }
def PrecedentAddsUptoSaid : Prop := precedentAddsUptoRow.holds Try.pinned (OpenSpec.upto precedentAddsSpec)

/-- 'greenbeltlaw39.PrecedentOverrule', WHERE WHAT IT READS IS OF BULK AT MOST 1048576: true; the input reads as it did. -/
def precedentOverruleUptoRow : OpenClaim := { program := "ytodgohilfbggjaa", sum := "bc17c3220a1e46c206d50d863b827b04ad6c834f0ea1c630a8ee2b350bc304b7", func := "greenbelt/greenbeltlaw39.PrecedentOverrule", spec := "precedentOverrule", unfollowed := true, recurses := true, apart := false, narrowed := true }
def PrecedentOverruleUptoSaid : Prop := precedentOverruleUptoRow.holds Try.pinned (OpenSpec.upto precedentOverruleSpec)

/-- 'greenbeltlaw39.PrecedentDistinguish', WHERE WHAT IT READS IS OF BULK AT MOST 1048576: true; the input reads as it did. -/
def precedentDistinguishUptoRow : OpenClaim := { program := "ytodgohilfbggjaa", sum := "bc17c3220a1e46c206d50d863b827b04ad6c834f0ea1c630a8ee2b350bc304b7", func := "greenbelt/greenbeltlaw39.PrecedentDistinguish", spec := "precedentDistinguish", unfollowed := true, recurses := true, apart := false, narrowed := true }
def PrecedentDistinguishUptoSaid : Prop := precedentDistinguishUptoRow.holds Try.pinned (OpenSpec.upto precedentDistinguishSpec)

/-- 'greenbeltlaw39.PrecedentStronger', WHERE WHAT IT READS IS OF BULK AT MOST 1048576: true; the input reads as it did. -/
def precedentStrongerUptoRow : OpenClaim := { program := "ytodgohilfbggjaa", sum := "bc17c3220a1e46c206d50d863b827b04ad6c834f0ea1c630a8ee2b350bc304b7", func := "greenbelt/greenbeltlaw39.PrecedentStronger", spec := "precedentStronger", unfollowed := true, recurses := true, apart := false, narrowed := true }
def PrecedentStrongerUptoSaid : Prop := precedentStrongerUptoRow.holds Try.pinned (OpenSpec.upto precedentStrongerSpec)

end Rows
end Go.Proofs.Ytodgohilfbggjaa
