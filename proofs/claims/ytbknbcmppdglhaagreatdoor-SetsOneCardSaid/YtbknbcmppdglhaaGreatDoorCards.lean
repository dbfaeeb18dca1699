/-
  DERIVED. GIVEN WITH THE SEED: THE CARDS: each row of YtbknbcmppdglhaaGreatDoorRows.lean that lists a variable, with what it lists TIED to the program's text (the seventh form; the later family's looks); each row that meets fmt, with fmt's text TOLD by the authors' own Lean function (tested against real Go, not proved from fmt's source: count such statements apart). THE CARD IS WHAT COUNTS. Prove the row's statement (the work); the ties are given (YtbknbcmppdglhaaGreatDoorTie.lean); close each card by the builder's one call (the guide's Derived/Test/ToyasCard.lean, 'card_holds'). Laid BY PROGRAM, IN A SANDBOX (cutbox-door.mjs). By AI agents, Wed Nov 11 2026. No macro, syntax, notation, axiom, sorry.
-/
import Derived.Test.YtbknbcmppdglhaaGreatDoorRows
import GoSem.ClaimSeven
namespace Go.Proofs.YtbknbcmppdglhaaGreatDoor
namespace Rows

/-- THE TIED CARD OF 'intarsialaw19.SetsTell'. -/
def setsTellCard : Claim7 := { stood := { row := setsTellRow, standIns := [], harness := (true, "6045bcfa4327f5afb413ab9e0adb32d4349a83c832b4f5d2790450a94096d64e"), looks := true }, kinds := [], alts := [], laidByText := true, laidKinds := [.data], laidTests := true, laidLooks := .later }
def SetsTellCardSaid : Prop := Claim7.holds Tryz.pinned (.plain (OpenSpec.ofChange setsTellSpec)) setsTellCard

/-- THE TIED CARD OF 'intarsialaw19.SetsOne'. -/
def setsOneCard : Claim7 := { stood := { row := setsOneRow, standIns := [], harness := (true, "6045bcfa4327f5afb413ab9e0adb32d4349a83c832b4f5d2790450a94096d64e"), looks := true }, kinds := [], alts := [], laidByText := true, laidKinds := [.data], laidTests := true, laidLooks := .later }
def SetsOneCardSaid : Prop := Claim7.holds Tryz.pinned (.plain (OpenSpec.ofChange setsOneSpec)) setsOneCard

/-- THE SECOND FORM's CARD OF 'intarsialaw19.SetsTell'. -/
def setsTellUptoCard : Claim7 := { stood := { row := setsTellUptoRow, standIns := [], harness := (true, "6045bcfa4327f5afb413ab9e0adb32d4349a83c832b4f5d2790450a94096d64e"), looks := true }, kinds := [], alts := [], laidByText := true, laidKinds := [.data], laidTests := true, laidLooks := .later }
def SetsTellUptoCardSaid : Prop := Claim7.holds Tryz.pinned (.plain (OpenSpec.upto setsTellSpec)) setsTellUptoCard

/-- THE SECOND FORM's CARD OF 'intarsialaw19.SetsOne'. -/
def setsOneUptoCard : Claim7 := { stood := { row := setsOneUptoRow, standIns := [], harness := (true, "6045bcfa4327f5afb413ab9e0adb32d4349a83c832b4f5d2790450a94096d64e"), looks := true }, kinds := [], alts := [], laidByText := true, laidKinds := [.data], laidTests := true, laidLooks := .later }
def SetsOneUptoCardSaid : Prop := Claim7.holds Tryz.pinned (.plain (OpenSpec.upto setsOneSpec)) setsOneUptoCard
end Rows
end Go.Proofs.YtbknbcmppdglhaaGreatDoor
