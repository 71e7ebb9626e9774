/-
  DERIVED. GIVEN WITH THE SEED: THE CARDS: each row of YticpmplmbobnpaaGreatDoorRows.lean that lists a variable, with what it lists TIED to the program's text (the seventh form; the later family's looks); each row that meets fmt, with fmt's text TOLD by the authors' own Lean function (tested against real Go, not proved from fmt's source: count such statements apart). THE CARD IS WHAT COUNTS. Prove the row's statement (the work); the ties are given (YticpmplmbobnpaaGreatDoorTie.lean); close each card by the builder's one call (the guide's Derived/Test/ToyasCard.lean, 'card_holds'). Laid BY PROGRAM, IN A SANDBOX (cutbox-door.mjs). By AI agents, Wed Nov 11 2026. No macro, syntax, notation, axiom, sorry.
-/
import Derived.Test.YticpmplmbobnpaaGreatDoorRows
import GoSem.ClaimSeven
namespace Go.Proofs.YticpmplmbobnpaaGreatDoor
namespace Rows

/-- THE TIED CARD OF 'mandrellaw25.ShopSums'. -/
def shopSumsCard : Claim7 := { stood := { row := shopSumsRow, standIns := [], harness := (true, "d8bfa5470121a9a9a46e1fc0db7995bb0ab923d89e6283d346f91c4a49da744a"), looks := true }, kinds := [], alts := [], laidByText := true, laidKinds := [.data, .data, .data, .data, .handle, .sentinel, .sentinel, .listed, .data, .pinned], laidTests := true, laidLooks := .later }
def ShopSumsCardSaid : Prop := Claim7.holds Tryz.pinned (.plain (OpenSpec.ofChange shopSumsSpec)) shopSumsCard

/-- THE TIED CARD OF 'mandrellaw25.ShopReads'. -/
def shopReadsCard : Claim7 := { stood := { row := shopReadsRow, standIns := [], harness := (true, "d8bfa5470121a9a9a46e1fc0db7995bb0ab923d89e6283d346f91c4a49da744a"), looks := true }, kinds := [], alts := [], laidByText := true, laidKinds := [.data, .data, .data, .data, .handle, .sentinel, .sentinel, .listed, .data, .pinned], laidTests := true, laidLooks := .later }
def ShopReadsCardSaid : Prop := Claim7.holds Tryz.pinned (.plain (OpenSpec.ofChange shopReadsSpec)) shopReadsCard

/-- THE TIED CARD OF 'mandrellaw25.ShopMerges'. -/
def shopMergesCard : Claim7 := { stood := { row := shopMergesRow, standIns := [], harness := (true, "d8bfa5470121a9a9a46e1fc0db7995bb0ab923d89e6283d346f91c4a49da744a"), looks := true }, kinds := [], alts := [], laidByText := true, laidKinds := [.data, .data, .data, .data, .handle, .sentinel, .sentinel, .listed, .data, .pinned], laidTests := true, laidLooks := .later }
def ShopMergesCardSaid : Prop := Claim7.holds Tryz.pinned (.plain (OpenSpec.ofChange shopMergesSpec)) shopMergesCard

/-- THE SECOND FORM's CARD OF 'mandrellaw25.ShopSums'. -/
def shopSumsUptoCard : Claim7 := { stood := { row := shopSumsUptoRow, standIns := [], harness := (true, "d8bfa5470121a9a9a46e1fc0db7995bb0ab923d89e6283d346f91c4a49da744a"), looks := true }, kinds := [], alts := [], laidByText := true, laidKinds := [.data, .data, .data, .data, .handle, .sentinel, .sentinel, .listed, .data, .pinned], laidTests := true, laidLooks := .later }
def ShopSumsUptoCardSaid : Prop := Claim7.holds Tryz.pinned (.plain (OpenSpec.upto shopSumsSpec)) shopSumsUptoCard

/-- THE SECOND FORM's CARD OF 'mandrellaw25.ShopReads'. -/
def shopReadsUptoCard : Claim7 := { stood := { row := shopReadsUptoRow, standIns := [], harness := (true, "d8bfa5470121a9a9a46e1fc0db7995bb0ab923d89e6283d346f91c4a49da744a"), looks := true }, kinds := [], alts := [], laidByText := true, laidKinds := [.data, .data, .data, .data, .handle, .sentinel, .sentinel, .listed, .data, .pinned], laidTests := true, laidLooks := .later }
def ShopReadsUptoCardSaid : Prop := Claim7.holds Tryz.pinned (.plain (OpenSpec.upto shopReadsSpec)) shopReadsUptoCard

/-- THE SECOND FORM's CARD OF 'mandrellaw25.ShopMerges'. -/
def shopMergesUptoCard : Claim7 := { stood := { row := shopMergesUptoRow, standIns := [], harness := (true, "d8bfa5470121a9a9a46e1fc0db7995bb0ab923d89e6283d346f91c4a49da744a"), looks := true }, kinds := [], alts := [], laidByText := true, laidKinds := [.data, .data, .data, .data, .handle, .sentinel, .sentinel, .listed, .data, .pinned], laidTests := true, laidLooks := .later }
def ShopMergesUptoCardSaid : Prop := Claim7.holds Tryz.pinned (.plain (OpenSpec.upto shopMergesSpec)) shopMergesUptoCard
end Rows
end Go.Proofs.YticpmplmbobnpaaGreatDoor
