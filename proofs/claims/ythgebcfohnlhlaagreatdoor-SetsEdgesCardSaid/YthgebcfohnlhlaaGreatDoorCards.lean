/-
  DERIVED. GIVEN WITH THE SEED: THE CARDS: each row of YthgebcfohnlhlaaGreatDoorRows.lean that lists a variable, with what it lists TIED to the program's text (the seventh form; the later family's looks); each row that meets fmt, with fmt's text TOLD by the authors' own Lean function (tested against real Go, not proved from fmt's source: count such statements apart). THE CARD IS WHAT COUNTS. Prove the row's statement (the work); the ties are given (YthgebcfohnlhlaaGreatDoorTie.lean); close each card by the builder's one call (the guide's Derived/Test/ToyasCard.lean, 'card_holds'). Laid BY PROGRAM, IN A SANDBOX (cutbox-door.mjs). By AI agents, Wed Nov 11 2026. No macro, syntax, notation, axiom, sorry.
-/
import Derived.Test.YthgebcfohnlhlaaGreatDoorRows
import GoSem.ClaimSeven
namespace Go.Proofs.YthgebcfohnlhlaaGreatDoor
namespace Rows

/-- THE TIED CARD OF 'intarsialaw19.SetsTell'. -/
def setsTellCard : Claim7 := { stood := { row := setsTellRow, standIns := [], harness := (true, "14ee367bbce09a662c94a0f992cfe91c88b45d9d1bb94cfbd3c1f9703acda535"), looks := true }, kinds := [], alts := [], laidByText := true, laidKinds := [.data], laidTests := true, laidLooks := .later }
def SetsTellCardSaid : Prop := Claim7.holds Tryz.pinned (.plain (OpenSpec.ofChange setsTellSpec)) setsTellCard

/-- THE TIED CARD OF 'intarsialaw19.SetsSmall'. -/
def setsSmallCard : Claim7 := { stood := { row := setsSmallRow, standIns := [], harness := (true, "14ee367bbce09a662c94a0f992cfe91c88b45d9d1bb94cfbd3c1f9703acda535"), looks := true }, kinds := [], alts := [], laidByText := true, laidKinds := [.data], laidTests := true, laidLooks := .later }
def SetsSmallCardSaid : Prop := Claim7.holds Tryz.pinned (.plain (OpenSpec.ofChange setsSmallSpec)) setsSmallCard

/-- THE TIED CARD OF 'intarsialaw19.SetsEdges'. -/
def setsEdgesCard : Claim7 := { stood := { row := setsEdgesRow, standIns := [], harness := (true, "14ee367bbce09a662c94a0f992cfe91c88b45d9d1bb94cfbd3c1f9703acda535"), looks := true }, kinds := [], alts := [], laidByText := true, laidKinds := [.data], laidTests := true, laidLooks := .later }
def SetsEdgesCardSaid : Prop := Claim7.holds Tryz.pinned (.plain (OpenSpec.ofChange setsEdgesSpec)) setsEdgesCard

/-- THE TIED CARD OF 'intarsialaw19.SetsOne'. -/
def setsOneCard : Claim7 := { stood := { row := setsOneRow, standIns := [], harness := (true, "14ee367bbce09a662c94a0f992cfe91c88b45d9d1bb94cfbd3c1f9703acda535"), looks := true }, kinds := [], alts := [], laidByText := true, laidKinds := [.data], laidTests := true, laidLooks := .later }
def SetsOneCardSaid : Prop := Claim7.holds Tryz.pinned (.plain (OpenSpec.ofChange setsOneSpec)) setsOneCard

/-- THE SECOND FORM's CARD OF 'intarsialaw19.SetsTell'. -/
def setsTellUptoCard : Claim7 := { stood := { row := setsTellUptoRow, standIns := [], harness := (true, "14ee367bbce09a662c94a0f992cfe91c88b45d9d1bb94cfbd3c1f9703acda535"), looks := true }, kinds := [], alts := [], laidByText := true, laidKinds := [.data], laidTests := true, laidLooks := .later }
def SetsTellUptoCardSaid : Prop := Claim7.holds Tryz.pinned (.plain (OpenSpec.upto setsTellSpec)) setsTellUptoCard

/-- THE SECOND FORM's CARD OF 'intarsialaw19.SetsSmall'. -/
def setsSmallUptoCard : Claim7 := { stood := { row := setsSmallUptoRow, standIns := [], harness := (true, "14ee367bbce09a662c94a0f992cfe91c88b45d9d1bb94cfbd3c1f9703acda535"), looks := true }, kinds := [], alts := [], laidByText := true, laidKinds := [.data], laidTests := true, laidLooks := .later }
def SetsSmallUptoCardSaid : Prop := Claim7.holds Tryz.pinned (.plain (OpenSpec.upto setsSmallSpec)) setsSmallUptoCard

/-- THE SECOND FORM's CARD OF 'intarsialaw19.SetsEdges'. -/
def setsEdgesUptoCard : Claim7 := { stood := { row := setsEdgesUptoRow, standIns := [], harness := (true, "14ee367bbce09a662c94a0f992cfe91c88b45d9d1bb94cfbd3c1f9703acda535"), looks := true }, kinds := [], alts := [], laidByText := true, laidKinds := [.data], laidTests := true, laidLooks := .later }
def SetsEdgesUptoCardSaid : Prop := Claim7.holds Tryz.pinned (.plain (OpenSpec.upto setsEdgesSpec)) setsEdgesUptoCard

/-- THE SECOND FORM's CARD OF 'intarsialaw19.SetsOne'. -/
def setsOneUptoCard : Claim7 := { stood := { row := setsOneUptoRow, standIns := [], harness := (true, "14ee367bbce09a662c94a0f992cfe91c88b45d9d1bb94cfbd3c1f9703acda535"), looks := true }, kinds := [], alts := [], laidByText := true, laidKinds := [.data], laidTests := true, laidLooks := .later }
def SetsOneUptoCardSaid : Prop := Claim7.holds Tryz.pinned (.plain (OpenSpec.upto setsOneSpec)) setsOneUptoCard
end Rows
end Go.Proofs.YthgebcfohnlhlaaGreatDoor
