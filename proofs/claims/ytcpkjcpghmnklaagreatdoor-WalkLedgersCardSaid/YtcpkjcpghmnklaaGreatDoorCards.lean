/-
  DERIVED. GIVEN WITH THE SEED: THE CARDS: each row of YtcpkjcpghmnklaaGreatDoorRows.lean that lists a variable, with what it lists TIED to the program's text (the seventh form; the later family's looks); each row that meets fmt, with fmt's text TOLD by the authors' own Lean function (tested against real Go, not proved from fmt's source: count such statements apart). THE CARD IS WHAT COUNTS. Prove the row's statement (the work); the ties are given (YtcpkjcpghmnklaaGreatDoorTie.lean); close each card by the builder's one call (the guide's Derived/Test/ToyasCard.lean, 'card_holds'). Laid BY PROGRAM, IN A SANDBOX (cutbox-door.mjs). By AI agents, Wed Nov 11 2026. No macro, syntax, notation, axiom, sorry.
-/
import Derived.Test.YtcpkjcpghmnklaaGreatDoorRows
import GoSem.ClaimSeven
namespace Go.Proofs.YtcpkjcpghmnklaaGreatDoor
namespace Rows

/-- THE TIED CARD OF 'hayloftlaw27.WalkLedgers'. -/
def walkLedgersCard : Claim7 := { stood := { row := walkLedgersRow, standIns := [], harness := (true, "329b6ff363baced7b5aab06840d432c01401301e3c3dc781867299a33d135719"), looks := true }, kinds := [], alts := [], laidByText := true, laidKinds := [.data, .data, .data, .data, .sentinel, .sentinel, .pinned], laidTests := true, laidLooks := .later }
def WalkLedgersCardSaid : Prop := Claim7.holds Tryz.pinned (.plain (OpenSpec.ofChange walkLedgersSpec)) walkLedgersCard

/-- THE SECOND FORM's CARD OF 'hayloftlaw27.WalkLedgers'. -/
def walkLedgersUptoCard : Claim7 := { stood := { row := walkLedgersUptoRow, standIns := [], harness := (true, "329b6ff363baced7b5aab06840d432c01401301e3c3dc781867299a33d135719"), looks := true }, kinds := [], alts := [], laidByText := true, laidKinds := [.data, .data, .data, .data, .sentinel, .sentinel, .pinned], laidTests := true, laidLooks := .later }
def WalkLedgersUptoCardSaid : Prop := Claim7.holds Tryz.pinned (.plain (OpenSpec.upto walkLedgersSpec)) walkLedgersUptoCard
end Rows
end Go.Proofs.YtcpkjcpghmnklaaGreatDoor
