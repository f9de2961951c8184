/-
  DERIVED. GIVEN WITH THE SEED: THE CARDS: each row of YtomgpelfmgkknaaGreatDoorRows.lean that lists a variable, with what it lists TIED to the program's text (the seventh form; the later family's looks); each row that meets fmt, with fmt's text TOLD by the authors' own Lean function (tested against real Go, not proved from fmt's source: count such statements apart). THE CARD IS WHAT COUNTS. Prove the row's statement (the work); the ties are given (YtomgpelfmgkknaaGreatDoorTie.lean); close each card by the builder's one call (the guide's Derived/Test/ToyasCard.lean, 'card_holds'). Laid BY PROGRAM, IN A SANDBOX (cutbox-door.mjs). By AI agents, Wed Nov 11 2026. No macro, syntax, notation, axiom, sorry.
-/
import Derived.Test.YtomgpelfmgkknaaGreatDoorRows
import GoSem.ClaimSeven
namespace Go.Proofs.YtomgpelfmgkknaaGreatDoor
namespace Rows

/-- THE TIED CARD OF 'greenbelttop.TopLater'. -/
def topLaterCard : Claim7 := { stood := { row := topLaterRow, standIns := [], harness := (true, "d31d7851f1531d22a74008c8abd63ff776aa49e08c299b64c03f3608eb6a54df"), looks := true }, kinds := [], alts := [], laidByText := true, laidKinds := [.listed, .data, .data], laidTests := true, laidLooks := .later }
def TopLaterCardSaid : Prop := Claim7.holds Tryz.pinned (.plain (OpenSpec.ofChange topLaterSpec)) topLaterCard

/-- THE TIED CARD OF 'greenbelttop.TopGrace'. -/
def topGraceCard : Claim7 := { stood := { row := topGraceRow, standIns := [], harness := (true, "d31d7851f1531d22a74008c8abd63ff776aa49e08c299b64c03f3608eb6a54df"), looks := true }, kinds := [], alts := [], laidByText := true, laidKinds := [.listed, .data, .data], laidTests := true, laidLooks := .later }
def TopGraceCardSaid : Prop := Claim7.holds Tryz.pinned (.plain (OpenSpec.ofChange topGraceSpec)) topGraceCard

/-- THE SECOND FORM's CARD OF 'greenbelttop.TopLater'. -/
def topLaterUptoCard : Claim7 := { stood := { row := topLaterUptoRow, standIns := [], harness := (true, "d31d7851f1531d22a74008c8abd63ff776aa49e08c299b64c03f3608eb6a54df"), looks := true }, kinds := [], alts := [], laidByText := true, laidKinds := [.listed, .data, .data], laidTests := true, laidLooks := .later }
def TopLaterUptoCardSaid : Prop := Claim7.holds Tryz.pinned (.plain (OpenSpec.upto topLaterSpec)) topLaterUptoCard

/-- THE SECOND FORM's CARD OF 'greenbelttop.TopGrace'. -/
def topGraceUptoCard : Claim7 := { stood := { row := topGraceUptoRow, standIns := [], harness := (true, "d31d7851f1531d22a74008c8abd63ff776aa49e08c299b64c03f3608eb6a54df"), looks := true }, kinds := [], alts := [], laidByText := true, laidKinds := [.listed, .data, .data], laidTests := true, laidLooks := .later }
def TopGraceUptoCardSaid : Prop := Claim7.holds Tryz.pinned (.plain (OpenSpec.upto topGraceSpec)) topGraceUptoCard
end Rows
end Go.Proofs.YtomgpelfmgkknaaGreatDoor
