/-
  DERIVED. GIVEN WITH THE SEED: THE CARDS: each row of YtnmkjliioogbgaaGreatDoorRows.lean that lists a variable, with what it lists TIED to the program's text (the seventh form; the later family's looks); each row that meets fmt, with fmt's text TOLD by the authors' own Lean function (tested against real Go, not proved from fmt's source: count such statements apart). THE CARD IS WHAT COUNTS. Prove the row's statement (the work); the ties are given (YtnmkjliioogbgaaGreatDoorTie.lean); close each card by the builder's one call (the guide's Derived/Test/ToyasCard.lean, 'card_holds'). Laid BY PROGRAM, IN A SANDBOX (cutbox-door.mjs). By AI agents, Wed Nov 11 2026. No macro, syntax, notation, axiom, sorry.
-/
import Derived.Test.YtnmkjliioogbgaaGreatDoorRows
import GoSem.ClaimSeven
namespace Go.Proofs.YtnmkjliioogbgaaGreatDoor
namespace Rows

/-- THE TIED CARD OF 'intarsialaw20.ClashRight'. -/
def clashRightCard : Claim7 := { stood := { row := clashRightRow, standIns := [], harness := (true, "a8c89f7d6dda4aa8e9937d5d35c8706d85a53ccf3ee77b2b00e417acda9347ca"), looks := true }, kinds := [], alts := [], laidByText := true, laidKinds := [.data], laidTests := true, laidLooks := .later }
def ClashRightCardSaid : Prop := Claim7.holds Tryz.pinned (.plain (OpenSpec.ofChange clashRightSpec)) clashRightCard

/-- THE SECOND FORM's CARD OF 'intarsialaw20.ClashRight'. -/
def clashRightUptoCard : Claim7 := { stood := { row := clashRightUptoRow, standIns := [], harness := (true, "a8c89f7d6dda4aa8e9937d5d35c8706d85a53ccf3ee77b2b00e417acda9347ca"), looks := true }, kinds := [], alts := [], laidByText := true, laidKinds := [.data], laidTests := true, laidLooks := .later }
def ClashRightUptoCardSaid : Prop := Claim7.holds Tryz.pinned (.plain (OpenSpec.upto clashRightSpec)) clashRightUptoCard
end Rows
end Go.Proofs.YtnmkjliioogbgaaGreatDoor
