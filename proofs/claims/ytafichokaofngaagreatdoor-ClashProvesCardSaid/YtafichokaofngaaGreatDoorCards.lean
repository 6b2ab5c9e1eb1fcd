/-
  DERIVED. GIVEN WITH THE SEED: THE CARDS: each row of YtafichokaofngaaGreatDoorRows.lean that lists a variable, with what it lists TIED to the program's text (the seventh form; the later family's looks); each row that meets fmt, with fmt's text TOLD by the authors' own Lean function (tested against real Go, not proved from fmt's source: count such statements apart). THE CARD IS WHAT COUNTS. Prove the row's statement (the work); the ties are given (YtafichokaofngaaGreatDoorTie.lean); close each card by the builder's one call (the guide's Derived/Test/ToyasCard.lean, 'card_holds'). Laid BY PROGRAM, IN A SANDBOX (cutbox-door.mjs). By AI agents, Wed Nov 11 2026. No macro, syntax, notation, axiom, sorry.
-/
import Derived.Test.YtafichokaofngaaGreatDoorRows
import GoSem.ClaimSeven
namespace Go.Proofs.YtafichokaofngaaGreatDoor
namespace Rows

/-- THE TIED CARD OF 'strongroomlaw29.ClashShare'. -/
def clashShareCard : Claim7 := { stood := { row := clashShareRow, standIns := [], harness := (true, "525d15e58a28b8037ee4a80380bf76e02d8dc41a24c706f555a3e33f8c919fbf"), looks := true }, kinds := [], alts := [], laidByText := true, laidKinds := [.data, .data, .data, .sentinel, .sentinel], laidTests := true, laidLooks := .later }
def ClashShareCardSaid : Prop := Claim7.holds Tryz.pinned (.plain (OpenSpec.ofChange clashShareSpec)) clashShareCard

/-- THE TIED CARD OF 'strongroomlaw29.ClashProves'. -/
def clashProvesCard : Claim7 := { stood := { row := clashProvesRow, standIns := [], harness := (true, "525d15e58a28b8037ee4a80380bf76e02d8dc41a24c706f555a3e33f8c919fbf"), looks := true }, kinds := [], alts := [], laidByText := true, laidKinds := [.data, .data, .data, .sentinel, .sentinel], laidTests := true, laidLooks := .later }
def ClashProvesCardSaid : Prop := Claim7.holds Tryz.pinned (.plain (OpenSpec.ofChange clashProvesSpec)) clashProvesCard

/-- THE TIED CARD OF 'strongroomlaw29.ClashNames'. -/
def clashNamesCard : Claim7 := { stood := { row := clashNamesRow, standIns := [], harness := (true, "525d15e58a28b8037ee4a80380bf76e02d8dc41a24c706f555a3e33f8c919fbf"), looks := true }, kinds := [], alts := [], laidByText := true, laidKinds := [.data, .data, .data, .sentinel, .sentinel], laidTests := true, laidLooks := .later }
def ClashNamesCardSaid : Prop := Claim7.holds Tryz.pinned (.plain (OpenSpec.ofChange clashNamesSpec)) clashNamesCard

/-- THE SECOND FORM's CARD OF 'strongroomlaw29.ClashShare'. -/
def clashShareUptoCard : Claim7 := { stood := { row := clashShareUptoRow, standIns := [], harness := (true, "525d15e58a28b8037ee4a80380bf76e02d8dc41a24c706f555a3e33f8c919fbf"), looks := true }, kinds := [], alts := [], laidByText := true, laidKinds := [.data, .data, .data, .sentinel, .sentinel], laidTests := true, laidLooks := .later }
def ClashShareUptoCardSaid : Prop := Claim7.holds Tryz.pinned (.plain (OpenSpec.upto clashShareSpec)) clashShareUptoCard

/-- THE SECOND FORM's CARD OF 'strongroomlaw29.ClashProves'. -/
def clashProvesUptoCard : Claim7 := { stood := { row := clashProvesUptoRow, standIns := [], harness := (true, "525d15e58a28b8037ee4a80380bf76e02d8dc41a24c706f555a3e33f8c919fbf"), looks := true }, kinds := [], alts := [], laidByText := true, laidKinds := [.data, .data, .data, .sentinel, .sentinel], laidTests := true, laidLooks := .later }
def ClashProvesUptoCardSaid : Prop := Claim7.holds Tryz.pinned (.plain (OpenSpec.upto clashProvesSpec)) clashProvesUptoCard

/-- THE SECOND FORM's CARD OF 'strongroomlaw29.ClashNames'. -/
def clashNamesUptoCard : Claim7 := { stood := { row := clashNamesUptoRow, standIns := [], harness := (true, "525d15e58a28b8037ee4a80380bf76e02d8dc41a24c706f555a3e33f8c919fbf"), looks := true }, kinds := [], alts := [], laidByText := true, laidKinds := [.data, .data, .data, .sentinel, .sentinel], laidTests := true, laidLooks := .later }
def ClashNamesUptoCardSaid : Prop := Claim7.holds Tryz.pinned (.plain (OpenSpec.upto clashNamesSpec)) clashNamesUptoCard
end Rows
end Go.Proofs.YtafichokaofngaaGreatDoor
