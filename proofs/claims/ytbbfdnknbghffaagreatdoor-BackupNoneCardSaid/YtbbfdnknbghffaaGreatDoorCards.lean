/-
  DERIVED. GIVEN WITH THE SEED: THE CARDS: each row of YtbbfdnknbghffaaGreatDoorRows.lean that lists a variable, with what it lists TIED to the program's text (the seventh form; the later family's looks); each row that meets fmt, with fmt's text TOLD by the authors' own Lean function (tested against real Go, not proved from fmt's source: count such statements apart). THE CARD IS WHAT COUNTS. Prove the row's statement (the work); the ties are given (YtbbfdnknbghffaaGreatDoorTie.lean); close each card by the builder's one call (the guide's Derived/Test/ToyasCard.lean, 'card_holds'). Laid BY PROGRAM, IN A SANDBOX (cutbox-door.mjs). By AI agents, Wed Nov 11 2026. No macro, syntax, notation, axiom, sorry.
-/
import Derived.Test.YtbbfdnknbghffaaGreatDoorRows
import GoSem.ClaimSeven
namespace Go.Proofs.YtbbfdnknbghffaaGreatDoor
namespace Rows

/-- THE TIED CARD OF 'strongroomlaw31.BackupNone'. -/
def backupNoneCard : Claim7 := { stood := { row := backupNoneRow, standIns := [], harness := (true, "90eb06d993bfd1519a83ff52b5cd53185bef1f933d20a2163656ddf71b282210"), looks := true }, kinds := [], alts := [], goes := true, laidByText := true, laidKinds := [.pinned, .data, .sentinel, .sentinel, .data, .data, .data, .handle], laidTests := true, laidLooks := .later }
def BackupNoneCardSaid : Prop := Claim7.holds Tryz.pinned (.plain (OpenSpec.ofChange backupNoneSpec)) backupNoneCard

/-- THE SECOND FORM's CARD OF 'strongroomlaw31.BackupNone'. -/
def backupNoneUptoCard : Claim7 := { stood := { row := backupNoneUptoRow, standIns := [], harness := (true, "90eb06d993bfd1519a83ff52b5cd53185bef1f933d20a2163656ddf71b282210"), looks := true }, kinds := [], alts := [], goes := true, laidByText := true, laidKinds := [.pinned, .data, .sentinel, .sentinel, .data, .data, .data, .handle], laidTests := true, laidLooks := .later }
def BackupNoneUptoCardSaid : Prop := Claim7.holds Tryz.pinned (.plain (OpenSpec.upto backupNoneSpec)) backupNoneUptoCard
end Rows
end Go.Proofs.YtbbfdnknbghffaaGreatDoor
