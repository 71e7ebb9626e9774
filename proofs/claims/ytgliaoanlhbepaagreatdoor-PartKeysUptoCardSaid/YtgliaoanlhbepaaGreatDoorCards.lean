/-
  DERIVED. GIVEN WITH THE SEED: THE CARDS: each row of YtgliaoanlhbepaaGreatDoorRows.lean that lists a variable, with what it lists TIED to the program's text (the seventh form; the later family's looks); each row that meets fmt, with fmt's text TOLD by the authors' own Lean function (tested against real Go, not proved from fmt's source: count such statements apart). THE CARD IS WHAT COUNTS. Prove the row's statement (the work); the ties are given (YtgliaoanlhbepaaGreatDoorTie.lean); close each card by the builder's one call (the guide's Derived/Test/ToyasCard.lean, 'card_holds'). Laid BY PROGRAM, IN A SANDBOX (cutbox-door.mjs). By AI agents, Wed Nov 11 2026. No macro, syntax, notation, axiom, sorry.
-/
import Derived.Test.YtgliaoanlhbepaaGreatDoorRows
import GoSem.ClaimSeven
namespace Go.Proofs.YtgliaoanlhbepaaGreatDoor
namespace Rows

/-- THE TIED CARD OF 'mandrellaw11.PartKeys'. -/
def partKeysCard : Claim7 := { stood := { row := partKeysRow, standIns := [], harness := (true, "129d28e74edb12ae49765b3d18b3dbca6d2e99b61010316c69fe0d6f197cdee8"), looks := true }, kinds := [], alts := [], laidByText := true, laidKinds := [.data, .data, .data, .data, .handle, .listed, .data, .pinned], laidTests := true, laidLooks := .later }
def PartKeysCardSaid : Prop := Claim7.holds Tryz.pinned (.plain (OpenSpec.ofChange partKeysSpec)) partKeysCard

/-- THE SECOND FORM's CARD OF 'mandrellaw11.PartKeys'. -/
def partKeysUptoCard : Claim7 := { stood := { row := partKeysUptoRow, standIns := [], harness := (true, "129d28e74edb12ae49765b3d18b3dbca6d2e99b61010316c69fe0d6f197cdee8"), looks := true }, kinds := [], alts := [], laidByText := true, laidKinds := [.data, .data, .data, .data, .handle, .listed, .data, .pinned], laidTests := true, laidLooks := .later }
def PartKeysUptoCardSaid : Prop := Claim7.holds Tryz.pinned (.plain (OpenSpec.upto partKeysSpec)) partKeysUptoCard
end Rows
end Go.Proofs.YtgliaoanlhbepaaGreatDoor
