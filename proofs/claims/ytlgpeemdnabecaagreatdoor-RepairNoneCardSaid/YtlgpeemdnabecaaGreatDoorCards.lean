/-
  DERIVED. GIVEN WITH THE SEED: THE CARDS: each row of YtlgpeemdnabecaaGreatDoorRows.lean that lists a variable, with what it lists TIED to the program's text (the seventh form; the later family's looks); each row that meets fmt, with fmt's text TOLD by the authors' own Lean function (tested against real Go, not proved from fmt's source: count such statements apart). THE CARD IS WHAT COUNTS. Prove the row's statement (the work); the ties are given (YtlgpeemdnabecaaGreatDoorTie.lean); close each card by the builder's one call (the guide's Derived/Test/ToyasCard.lean, 'card_holds'). Laid BY PROGRAM, IN A SANDBOX (cutbox-door.mjs). By AI agents, Wed Nov 11 2026. No macro, syntax, notation, axiom, sorry.
-/
import Derived.Test.YtlgpeemdnabecaaGreatDoorRows
import GoSem.ClaimSeven
namespace Go.Proofs.YtlgpeemdnabecaaGreatDoor
namespace Rows

/-- THE TIED CARD OF 'strongroomlaw28.RepairNone'. -/
def repairNoneCard : Claim7 := { stood := { row := repairNoneRow, standIns := [], harness := (true, "cac0a887b615e3b54b40c7ef3f7f2989147c2643a66ae21a69857fdca9184e47"), looks := true }, kinds := [], alts := [], goes := true, laidByText := true, laidKinds := [.data, .data, .data, .sentinel, .sentinel], laidTests := true, laidLooks := .later }
def RepairNoneCardSaid : Prop := Claim7.holds Tryz.pinned (.plain (OpenSpec.ofChange repairNoneSpec)) repairNoneCard

/-- THE SECOND FORM's CARD OF 'strongroomlaw28.RepairNone'. -/
def repairNoneUptoCard : Claim7 := { stood := { row := repairNoneUptoRow, standIns := [], harness := (true, "cac0a887b615e3b54b40c7ef3f7f2989147c2643a66ae21a69857fdca9184e47"), looks := true }, kinds := [], alts := [], goes := true, laidByText := true, laidKinds := [.data, .data, .data, .sentinel, .sentinel], laidTests := true, laidLooks := .later }
def RepairNoneUptoCardSaid : Prop := Claim7.holds Tryz.pinned (.plain (OpenSpec.upto repairNoneSpec)) repairNoneUptoCard
end Rows
end Go.Proofs.YtlgpeemdnabecaaGreatDoor
